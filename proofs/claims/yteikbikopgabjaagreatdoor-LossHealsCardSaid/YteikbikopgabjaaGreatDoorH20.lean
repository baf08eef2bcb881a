import Derived.Test.YteikbikopgabjaaGreatDoorH05
/- Part 20 of a proof; the last part says what is proved. -/
namespace Go.GF
open Go Go.RowKit
structure But (b : Nat) (w w' : World) : Prop where
 os : w'.os = w.os
 tape : w'.tape = w.tape
 output : w'.output = w.output
 size : w.heap.size ≤ w'.heap.size
 block : ∀ k, k < w.heap.size → k ≠ b → w'.heap[k]? = w.heap[k]?
theorem But.refl (b : Nat) (w : World) : But b w w := ⟨rfl, rfl, rfl, Nat.le_refl _, fun _ _ _ => rfl⟩
theorem But.trans {b : Nat} {w w' w'' : World} (h : But b w w') (k : But b w' w'') : But b w w'' :=
 ⟨k.os.trans h.os, k.tape.trans h.tape, k.output.trans h.output, Nat.le_trans h.size k.size, fun i hi hne => (k.block i (Nat.lt_of_lt_of_le hi h.size) hne).trans (h.block i hi hne)⟩
theorem But.of {b : Nat} {w w' : World} (h : Below w.heap.size w w') : But b w w' := ⟨h.os, h.tape, h.output, h.size, fun k hk _ => h.block k hk⟩
theorem But.set (b o : Nat) (w : World) (v : Value) : But b w (w.setCell ⟨b, o, none⟩ v) :=
 ⟨rfl, rfl, rfl, by simp [World.setCell], fun _ _ hne => heap_setCell_other _ _ _ _ hne⟩
theorem But.below {b B : Nat} {w w' : World} (h : But b w w') (hB : B ≤ b) (hs : B ≤ w.heap.size) : Below B w w' := ⟨h.os, h.tape, h.output, h.size, fun k hk => h.block k (Nat.lt_of_lt_of_le hk hs) (by omega)⟩
theorem But.drew {b : Nat} {w w' : World} (h : But b w w') : But b w w'.drew := ⟨h.os, h.tape, h.output, h.size, h.block⟩
structure MatB (w : World) (b R C : Nat) (M : Mat) : Prop where
 at_ : ∃ (c : Array Value) (t : TypeId), w.heap[b]? = some (.cells c t (0, 0)) ∧ R * C ≤ c.size ∧ ∀ i, i < R → ∀ j, j < C → c[i * C + j]? = some (.int .i64 ((M i j : Nat) : Int))
theorem idx_lt {R C i j : Nat} (hi : i < R) (hj : j < C) : i * C + j < R * C := by
 have : (i + 1) * C ≤ R * C := Nat.mul_le_mul_right C hi
 rw [Nat.add_mul] at this; omega
theorem idx_inj {C i j i' j' : Nat} (hj : j < C) (hj' : j' < C) (h : i * C + j = i' * C + j') : i = i' ∧ j = j' := by
 have h1 : (i * C + j) / C = i := by rw [Nat.mul_comm, Nat.mul_add_div (by omega), Nat.div_eq_of_lt hj, Nat.add_zero]
 have h2 : (i' * C + j') / C = i' := by rw [Nat.mul_comm, Nat.mul_add_div (by omega), Nat.div_eq_of_lt hj', Nat.add_zero]
 have h3 : i = i' := by rw [← h1, ← h2, h]
 exact ⟨h3, by subst h3; omega⟩
theorem MatB.lt {w : World} {b R C : Nat} {M : Mat} (h : MatB w b R C M) : b < w.heap.size := by
 obtain ⟨c, t, h1, -, -⟩ := h.at_
 rcases Nat.lt_or_ge b w.heap.size with h | h
 ·exact h
 ·rw [Array.getElem?_eq_none h] at h1; cases h1
theorem MatB.cell {w : World} {b R C : Nat} {M : Mat} (h : MatB w b R C M) {i j : Nat} (hi : i < R) (hj : j < C) : w.cell? ⟨b, i * C + j, none⟩ = some (.int .i64 ((M i j : Nat) : Int)) := by
 obtain ⟨c, t, h1, -, h3⟩ := h.at_
 unfold World.cell?
 simp only [h1]
 exact h3 i hi j hj
theorem MatB.free {w : World} {b R C : Nat} {M : Mat} (h : MatB w b R C M) (o : Nat) : w.frozen? ⟨b, o, none⟩ = false := by
 obtain ⟨c, t, h1, -, -⟩ := h.at_
 unfold World.frozen?
 simp [h1]
theorem MatB.keep {w w' : World} {b R C : Nat} {M : Mat} (h : MatB w b R C M) (hk : w'.heap[b]? = w.heap[b]?) : MatB w' b R C M := by
 obtain ⟨c, t, h1, h2, h3⟩ := h.at_
 exact ⟨c, t, hk.trans h1, h2, h3⟩
theorem MatB.below {w w' : World} {b R C : Nat} {M : Mat} (h : MatB w b R C M) (hb : Below w.heap.size w w') : MatB w' b R C M := h.keep (hb.block b h.lt)
theorem MatB.but {w w' : World} {b b' R C : Nat} {M : Mat} (h : MatB w b R C M) (hb : But b' w w') (hne : b ≠ b') : MatB w' b R C M := h.keep (hb.block b h.lt hne)
theorem MatB.congr {w : World} {b R C : Nat} {M M' : Mat} (h : MatB w b R C M) (he : ∀ i, i < R → ∀ j, j < C → M i j = M' i j) : MatB w b R C M' := by
 obtain ⟨c, t, h1, h2, h3⟩ := h.at_
 exact ⟨c, t, h1, h2, fun i hi j hj => by rw [h3 i hi j hj, he i hi j hj]⟩
def setM (M : Mat) (i j x : Nat) : Mat := fun i' j' => if i' = i ∧ j' = j then x else M i' j'
theorem MatB.set {w : World} {b R C : Nat} {M : Mat} (h : MatB w b R C M) {i j : Nat} (hj : j < C) (x : Nat) : MatB (w.setCell ⟨b, i * C + j, none⟩ (.int .i64 (x : Int))) b R C (setM M i j x) := by
 obtain ⟨c, t, h1, h2, h3⟩ := h.at_
 refine ⟨c.setIfInBounds (i * C + j) (.int .i64 (x : Int)), t, heap_setCell_same w b _ c t _ h1, by simpa using h2, fun i' hi' j' hj' => ?_⟩
 unfold setM
 by_cases he : i' = i ∧ j' = j
 ·obtain ⟨rfl, rfl⟩ := he
  have := idx_lt hi' hj
  rw [if_pos ⟨rfl, rfl⟩, Array.getElem?_setIfInBounds_self_of_lt (by omega)]
 ·rw [if_neg he, Array.getElem?_setIfInBounds_ne (by
   intro h
   exact he ⟨(idx_inj hj hj' h).1.symm, (idx_inj hj hj' h).2.symm⟩)]
  exact h3 i' hi' j' hj'
def matV (m R C b cap : Nat) : Array Value := #[.int .i64 (m : Int), .int .i64 (R : Int), .int .i64 (C : Int), .slice (some ⟨b, 0, none⟩) (R * C) cap]
end Go.GF
namespace Go.Proofs.YteikbikopgabjaaGreatDoor
open Go.RowKit Go.GF
set_option maxRecDepth 20000 in
set_option maxHeartbeats 1000000 in
theorem row_any (m R C b cap i : Nat) (hi : i < R) (hR : R ≤ 32) (hC : C ≤ 32) (h0 : 0 < C) (hcap : R * C ≤ cap) (w : World) :
  Calls Tryz.prog 153 #[.agg (matV m R C b cap), .int .i64 (i : Int)] w fun e w' => e = .returned (.slice (some ⟨b, i * C, none⟩) C (cap - i * C)) ∧ Below w.heap.size w w' := by
 have h2 : (i + 1) * C = i * C + C := by rw [Nat.add_mul]; omega
 have h3 : (i + 1) * C ≤ R * C := Nat.mul_le_mul_right C hi
 have h4 : R * C ≤ 32 * 32 := Nat.mul_le_mul hR hC
 have hw1 : IntKind.i64.wrap ((i : Int) * (C : Int)) = ((i * C : Nat) : Int) := by
  rw [show (i : Int) * (C : Int) = ((i * C : Nat) : Int) by simp]; exact wrap_nat (by omega)
 have hw2 : IntKind.i64.wrap ((i : Int) + 1) = ((i + 1 : Nat) : Int) := by
  rw [show (i : Int) + 1 = ((i + 1 : Nat) : Int) by simp]; exact wrap_nat (by omega)
 have hw3 : IntKind.i64.wrap (((i + 1 : Nat) : Int) * (C : Int)) = ((i * C + C : Nat) : Int) := by
  rw [← h2, show ((i + 1 : Nat) : Int) * (C : Int) = (((i + 1) * C : Nat) : Int) by simp]; exact wrap_nat (by omega)
 unfold matV
 have hn : cap ≠ i * C := by omega
 have hlc : i * C + C ≤ cap := by omega
 have hsub : i * C + C - i * C = C := by omega
 generalize R * C = N at *
 generalize hI : i * C = P at *
 generalize hJ : i + 1 = i1 at *
 generalize hQ : P + C = Q at *
 have hle : P ≤ Q := by omega
 clear h2 h3 h4 hI hJ hcap
 go_enter Tryz.func153, Tryz.ntmps153
 go_wp2
 go_ret
 exact ⟨rfl, al_below w _⟩
end Go.Proofs.YteikbikopgabjaaGreatDoor
namespace Go.GF
open Go Go.RowKit
def addK (mul : Nat → Nat → Nat) (M : Mat) (i r f k : Nat) : Mat := fun i' j => if i' = i ∧ j < k then M i j ^^^ mul f (M r j) else M i' j
theorem addK_zero (mul : Nat → Nat → Nat) (M : Mat) (i r f : Nat) : addK mul M i r f 0 = M := by
 funext i' j; unfold addK; rw [if_neg (by omega)]
theorem addK_set (mul : Nat → Nat → Nat) (M : Mat) (i r f k : Nat) : setM (addK mul M i r f k) i k (M i k ^^^ mul f (M r k)) = addK mul M i r f (k + 1) := by
 funext i' j
 unfold setM addK
 by_cases h1 : i' = i ∧ j = k
 ·obtain ⟨rfl, rfl⟩ := h1
  rw [if_pos ⟨rfl, rfl⟩, if_pos ⟨rfl, by omega⟩]
 ·rw [if_neg h1]
  by_cases h2 : i' = i ∧ j < k
  ·rw [if_pos h2, if_pos ⟨h2.1, by omega⟩]
  ·rw [if_neg h2, if_neg (fun h => by
    rcases Nat.lt_or_ge j k with h3 | h3
    ·exact h2 ⟨h.1, h3⟩
    ·exact h1 ⟨h.1, by omega⟩)]
theorem addK_all (mul : Nat → Nat → Nat) (M : Mat) (i r f C : Nat) : ∀ a, ∀ j, j < C → addK mul M i r f C a j = addM mul M i r f a j := by
 intro a j hj
 unfold addK addM
 by_cases h : a = i
 ·rw [if_pos ⟨h, hj⟩, if_pos h]
 ·rw [if_neg (fun h' => h h'.1), if_neg h]
end Go.GF
namespace Go.Proofs.YteikbikopgabjaaGreatDoor
open Go.RowKit Go.GF Go.Sl
attribute [local go_sem high] b_shl b_shl1 b_shr b_shr1 b_xor b_and1 b_nz b_n1
theorem TabF.but {b : Nat} {w w' : World} (h : TabF w) (hb : But b w w') (h0 : 3 < b) : TabF w' := by
 have hp := h.pos
 have h1 := hb.below (B := 3 + 1) h0 hp
 obtain ⟨a1, a2, a3, a4⟩ := h
 exact ⟨(h1.cell (p := ⟨3, 0, none⟩) (by simp)).trans a1, (h1.cell (p := ⟨3, 1, none⟩) (by simp)).trans a2, (h1.cell (p := ⟨3, 2, none⟩) (by simp)).trans a3, (h1.cell (p := ⟨3, 3, none⟩) (by simp)).trans a4⟩
abbrev TI : TypeId := 3
theorem info_int1 : (Tryz.prog.info? TI).map (·.size) = some 1 := by kernel_rfl
theorem exec_ixI {a : Act} {o : Oper} {w : World} {n c b off i : Nat} {x y : Operand} (ho : o.op = .indexAddr 36 x y) (hx : a.eval x = .slice (some ⟨b, off, none⟩) n c) (hy : a.eval y = .int .i64 (i : Int)) (hi : i < n) :
  (execOp a.eval o).run Tryz.prog w = .ok (.value (.pointer (some ⟨b, off + i, none⟩))) w := by
 obtain ⟨ti, hti, hts⟩ := Option.map_eq_some_iff.1 info_int1
 have h := exec_index_slice (P := Tryz.prog) (w := w) ho hx hy Tryz.underlying36 hti hts hi
 rwa [Nat.mul_one] at h
theorem exec_stI {a : Act} {o : Oper} {w : World} {x y : Operand} {ad : Addr} {z : Int} {u : Value} (ho : o.op = .store TI x y) (hx : a.eval x = .pointer (some ad)) (hy : a.eval y = .int .i64 z) (hc : w.cell? ad = some u) (hf : w.frozen? ad = false) :
  (execOp a.eval o).run Tryz.prog w = .ok .skip (w.setCell ad (.int .i64 z)) := by
 obtain ⟨ti, hti, hts⟩ := Option.map_eq_some_iff.1 info_int1
 exact exec_store_cell ho hx hy hti hts rfl hc hf
structure AdSt (w : World) (b R C m i r f : Nat) (M : Mat) (k : Value) (wr : World) : Prop where
 st : ∃ n : Nat, n ≤ C ∧ k = .int .i64 (n : Int) ∧ MatB wr b R C (addK (mulC m) M i r f n) ∧ But b w wr
set_option maxRecDepth 20000 in
set_option maxHeartbeats 2000000 in
theorem add_any (m : Nat) (hm : isF m) (R C b i r f : Nat) (hC : C ≤ 32) (hi : i < R) (hr : r < R) (hne : i ≠ r) (hb0 : 3 < b) (hf : f < 2 ^ m) (M : Mat) (hB : Bnd (2 ^ m) R C M) (c1 c2 : Nat) (w : World) (hT : TabF w) (hM : MatB w b R C M) :
  Calls Tryz.prog 167 #[.int .i64 (m : Int), .slice (some ⟨b, i * C, none⟩) C c1, .slice (some ⟨b, r * C, none⟩) C c2, .int .i64 (f : Int)] w fun e w' => (∃ v, e = .returned v) ∧ MatB w' b R C (addM (mulC m) M i r f) ∧ But b w w' := by
 have hm62 : m ≤ 62 := by rcases hm with rfl | rfl <;> omega
 have HTM := Lib.hid (fun x (hx : x < 2 ^ m) W (hT : TabF W) => times_any m hm f x hf hx W hT)
 have H0 := Lib.hid (And.intro hT hM)
 have HX := Lib.hid (And.intro hi (And.intro hr (And.intro hne (And.intro hB (And.intro (opsC hm) hf)))))
 have hlen : (C : Int) ≤ 32 := by omega
 clear hT hM hi hr hne hB hf hm
 obtain ⟨Pi, hPi⟩ : ∃ P, i * C = P := ⟨_, rfl⟩
 obtain ⟨Pr, hPr⟩ : ∃ P, r * C = P := ⟨_, rfl⟩
 rw [hPi, hPr]
 have HP := Lib.hid (And.intro hPi hPr)
 clear hPi hPr
 go_enter Tryz.func167, Tryz.ntmps167
 go_wp2
 go_loopw [12] (fun k wr => AdSt w b R C m i r f M k wr) (fun k _ => C - (intOf k).toNat)
 case atStart => exact ⟨⟨0, Nat.zero_le _, rfl, by rw [addK_zero]; exact H0.out.2, But.refl _ _⟩⟩
 case round =>
  obtain ⟨k, hk, rfl, hMk, hbt⟩ := hrel.st
  clear hrel
  by_cases hlt : k < C
  ·have hltd : decide ((k : Int) < (C : Int)) = true := decide_eq_true (by omega)
   obtain ⟨hi, hr, hne, hB, hO, hf⟩ := HX.out
   have e1 := hMk.cell hr hlt
   have e2 := hMk.cell hi hlt
   have eM1 : addK (mulC m) M i r f k r k = M r k := by unfold addK; rw [if_neg (by omega)]
   have eM2 : addK (mulC m) M i r f k i k = M i k := by unfold addK; rw [if_neg (by omega)]
   rw [eM1, HP.out.2] at e1
   rw [eM2, HP.out.1] at e2
   have hbr := hB r hr k hlt
   have hbi := hB i hi k hlt
   have hml := hO.lt _ _ hf hbr
   have ht2 := HTM.out (M r k) hbr wr.drew (H0.out.1.but hbt.drew hb0)
   have hx1 := lt62 hbi hm62
   have hx2 := lt62 hml hm62
   have hbl := hMk.lt
   have hw : IntKind.i64.wrap ((k : Int) + 1) = (k : Int) + 1 := IntWalk.i64_in _ (by omega)
   have h1 : (0 : Int) ≤ (k : Int) ∧ (k : Int) < (C : Int) := by omega
   have HK := Lib.hid (And.intro hMk (And.intro hbt (addK_set (mulC m) M i r f k)))
   have HT2 := Lib.hid ht2
   clear hMk hbt eM1 eM2 hbr hbi hml hi hr hne hB hO hf ht2
   generalize hx : M r k = x at *
   generalize hy : M i k = y at *
   have HXY := Lib.hid (And.intro hx hy)
   clear hx hy
   go_upto_region 3 with (fail)
   have hS0 : wr.drew.cell? ⟨b, Pi + k, none⟩ = some (.int .i64 (y : Int)) := e2
   refine reg_begin (fun w' => w'.cell? ⟨b, Pi + k, none⟩ = some (.int .i64 (y : Int))) (by kernel_rfl) ?_
   (apply reg_take 0 rfl rfl (by decide +kernel) rfl); (intro w' h2; go_simp; rfl); exact hS0; simp only [zq1, zq2, zq3]
   (apply reg_take 1 rfl rfl (by decide +kernel) rfl); (intro w' h2; go_simp; rfl); exact hS0; simp only [zq1, zq2, zq3]
   refine reg_take 2 (v := .pointer (some ⟨b, Pi + k, none⟩)) rfl rfl (by decide +kernel) rfl (fun w' h => exec_ixI rfl rfl rfl hlt) hS0 ?_; simp only [zq1, zq2, zq3]
   (apply reg_take 3 rfl rfl (by decide +kernel) rfl); (intro w' h2; go_simp; rfl); exact hS0; simp only [zq1, zq2, zq3]
   (apply reg_take 4 rfl rfl (by decide +kernel) rfl); (intro w' h2; go_simp; rfl); exact hS0; simp only [zq1, zq2, zq3]
   (apply reg_take 5 rfl rfl (by decide +kernel) rfl); (intro w' h2; go_simp; rfl); exact hS0; simp only [zq1, zq2, zq3]
   (apply reg_take 6 rfl rfl (by decide +kernel) rfl); (intro w' h2; go_simp; rfl); exact hS0; simp only [zq1, zq2, zq3]
   refine reg_call 7 rfl rfl (by decide +kernel) rfl (f := 166) (args := #[.int .i64 (m : Int), .int .i64 (f : Int), .int .i64 (x : Int)]) (R := fun v w' => v = .int .i64 ((mulC m f x : Nat) : Int) ∧ Hid (Below wr.heap.size wr w')) (by kernel_rfl) (HT2.out.mono fun e w' h => ⟨_, h.1, rfl, ⟨h.2.os, h.2.tape, h.2.output, h.2.size, h.2.block⟩⟩) ?_
   rintro _ w1 ⟨rfl, hb1⟩
   have hS1 : w1.cell? ⟨b, Pi + k, none⟩ = some (.int .i64 (y : Int)) := (hb1.out.cell (p := ⟨b, Pi + k, none⟩) hbl).trans e2
   refine ⟨hS1, ?_⟩
   simp only [zq1, zq2, zq3]
   (apply reg_take 8 rfl rfl (by decide +kernel) rfl); (intro w' h2; go_simp; rfl); exact hS1; simp only [zq1, zq2, zq3]
   refine reg_take 9 (v := .pointer (some ⟨b, Pi + k, none⟩)) rfl rfl (by decide +kernel) rfl (fun w' h => exec_ixI rfl rfl rfl hlt) hS1 ?_; simp only [zq1, zq2, zq3]
   refine reg_do_last 10 (w1.setCell ⟨b, Pi + k, none⟩ (.int .i64 ((xorN y (mulC m f x) : Nat) : Int))) rfl rfl (by decide +kernel) rfl (exec_stI rfl rfl rfl hS1 ((HK.out.1.below (w' := w1) ⟨hb1.out.os, hb1.out.tape, hb1.out.output, hb1.out.size, hb1.out.block⟩).free _)) ?_
   have HN := Lib.hid (show MatB (w1.setCell ⟨b, Pi + k, none⟩ (.int .i64 ((xorN y (mulC m f x) : Nat) : Int))) b R C (addK (mulC m) M i r f (k + 1)) ∧ But b w (w1.setCell ⟨b, Pi + k, none⟩ (.int .i64 ((xorN y (mulC m f x) : Nat) : Int))) by
    obtain ⟨hMk, hbt, hse⟩ := HK.out
    refine ⟨?_, (hbt.trans (But.of hb1.out)).trans (But.set _ _ _ _)⟩
    rw [← hse, ← HP.out.1]
    exact (hMk.below hb1.out).set hlt _)
   generalize w1.setCell ⟨b, Pi + k, none⟩ (.int .i64 ((xorN y (mulC m f x) : Nat) : Int)) = w2 at *
   clear hS0 hS1 hb1 e1 e2 HT2 HK
   go_wp2
   go_roundw
   case rel => exact ⟨⟨k + 1, hlt, rfl, HN.out.1, HN.out.2⟩⟩
   case measure => simp only [intOf]; omega
  ·have hke : k = C := by omega
   have hltd : decide ((k : Int) < (C : Int)) = false := decide_eq_false (by omega)
   have HF := Lib.hid (show MatB wr b R C (addM (mulC m) M i r f) by subst hke; exact hMk.congr fun a _ j hj => addK_all _ _ _ _ _ _ a j hj)
   have HB := Lib.hid hbt
   clear hMk hbt hke
   go_wp2
   go_end0
   exact ⟨⟨_, rfl⟩, HF.out, HB.out⟩
end Go.Proofs.YteikbikopgabjaaGreatDoor
namespace Go.GF
open Go Go.RowKit
def powN (s : Nat) : Nat := 2 ^ s
theorem b_1shl (t : TypeId) (yk : IntKind) (s : Nat) (hs : s ≤ 61) : binOp .shl t (.int .i64 1) (.int yk (s : Int)) = pure (.int .i64 ((powN s : Nat) : Int)) := by
 have h : shlN 1 s = powN s := by unfold shlN powN; rw [Nat.shiftLeft_eq, Nat.one_mul]
 rw [← h]
 refine b_shl t yk 1 s ?_ (by omega)
 rw [h]; unfold powN
 exact Nat.lt_of_le_of_lt (Nat.pow_le_pow_right (by omega) hs) (by decide)
def cellsL (R C : Nat) (M : Mat) : List Int := (List.range (R * C)).map fun p => ((M (p / C) (p % C) : Nat) : Int)
theorem cellsL_len (R C : Nat) (M : Mat) : (cellsL R C M).length = R * C := by unfold cellsL; simp
theorem cellsL_at {R C : Nat} {M : Mat} {p : Nat} (h : p < R * C) : (cellsL R C M)[p]? = some ((M (p / C) (p % C) : Nat) : Int) := by
 unfold cellsL; rw [List.getElem?_map, List.getElem?_range h]; rfl
theorem div_lt {R C p : Nat} (h : p < R * C) : p / C < R ∧ p % C < C := by
 have hC : 0 < C := by
  rcases Nat.eq_zero_or_pos C with h0 | h0
  ·subst h0; omega
  ·exact h0
 exact ⟨(Nat.div_lt_iff_lt_mul hC).2 h, Nat.mod_lt _ hC⟩
theorem MatB.row {w : World} {b R C cap : Nat} {M : Mat} (h : MatB w b R C M) (h1 : R * C ≤ cap) (h2 : cap ≤ maxLen) : RowI w (.slice (some ⟨b, 0, none⟩) (R * C) cap) (intsV (cellsL R C M)) := by
 refine ⟨some ⟨b, 0, none⟩, cap, by rw [intsV_len, cellsL_len], by rw [intsV_len, cellsL_len]; exact h1, h2, fun _ => ⟨b, 0, rfl, h.lt, fun j u hu => ?_⟩⟩
 have hj : j < R * C := by
  rcases Nat.lt_or_ge j (R * C) with h | h
  ·exact h
  ·rw [List.getElem?_eq_none (by rw [intsV_len, cellsL_len]; exact h)] at hu; cases hu
 rw [intsV_at (cellsL_at hj)] at hu
 cases hu
 obtain ⟨a1, a2⟩ := div_lt hj
 have := h.cell a1 a2
 rw [show j / C * C + j % C = j from Nat.div_add_mod' j C] at this
 rw [Nat.zero_add]; exact this
end Go.GF
namespace Go.Proofs.YteikbikopgabjaaGreatDoor
open Go.RowKit Go.GF Go.Sl
attribute [local go_sem high] b_shl b_shl1 b_shr b_shr1 b_xor b_and1 b_nz b_n1 b_1shl
set_option maxRecDepth 20000 in
theorem valid1_any (m : Nat) (hm : isF m) (x : Nat) (hx : x < 2 ^ m) (b : Nat) (w : World) (hc : w.cell? ⟨b, 0, none⟩ = some (.int .i64 (m : Int))) :
  Calls Tryz.prog 163 #[.int .i64 (x : Int), .pointer (some ⟨b, 0, none⟩)] w fun e w' => e = .returned (.bool false) ∧ Below w.heap.size w w' := by
 have hm61 : m ≤ 61 := by rcases hm with rfl | rfl <;> omega
 have h1 : decide ((x : Int) < 0) = false := decide_eq_false (by omega)
 have h2 : decide (powN m ≤ x) = false := decide_eq_false (by unfold powN; omega)
 clear hx hm
 go_enter Tryz.func163, Tryz.ntmps163
 go_wp2
 go_ret
 exact ⟨rfl, Below.refl _ _⟩
theorem valid1_run (args : Array Value) (w : World) : (callFunc 163 args).run Tryz.prog w = .ok (.enter 163 args) w := by kernel_rfl
theorem valid_con (m : Nat) (hm : isF m) (R C cap : Nat) (M : Mat) (hB : Bnd (2 ^ m) R C M) (b q : Nat) (w : World) (h1 : R * C ≤ cap) (h2 : cap ≤ maxLen) (hM : MatB w b R C M) (hc : ∀ W', Below w.heap.size w W' → W'.cell? ⟨q, 0, none⟩ = some (.int .i64 (m : Int))) :
  Calls Tryz.prog 41 #[.slice (some ⟨b, 0, none⟩) (R * C) cap, .func (.func 163) #[] #[.pointer (some ⟨q, 0, none⟩)]] w fun e w' => e = .returned (.bool false) ∧ Below w.heap.size w w' := by
 refine (containsf_any _ (cellsL R C M) 163 #[.pointer (some ⟨q, 0, none⟩)] (fun _ => false) w valid1_run (hM.row h1 h2) ?_).mono ?_
 ·intro x hx W hb
  unfold cellsL at hx
  obtain ⟨p, hp, rfl⟩ := List.mem_map.1 hx
  obtain ⟨a1, a2⟩ := div_lt (List.mem_range.1 hp)
  have h := valid1_any m hm _ (hB _ a1 _ a2) q W (hc W hb)
  exact h
 ·rintro e w' ⟨rfl, h⟩
  exact ⟨by simp, h⟩
theorem mat_box (w : World) (m : Nat) (x y z : Value) (t : TypeId) : ∀ W', Below (w.alloc (.cells #[.int .i64 (m : Int), x, y, z] t)).heap.size (w.alloc (.cells #[.int .i64 (m : Int), x, y, z] t)) W' → W'.cell? ⟨w.heap.size, 0, none⟩ = some (.int .i64 (m : Int)) := by
 intro W h
 rw [h.cell (p := ⟨w.heap.size, 0, none⟩) (by simp)]
 unfold World.cell?
 rw [show (w.alloc (.cells #[.int .i64 (m : Int), x, y, z] t)).heap[w.heap.size]? = _ from World.alloc_heap_new w _]; rfl
set_option maxRecDepth 20000 in
set_option maxHeartbeats 1000000 in
theorem mvalid_any (m : Nat) (hm : isF m) (R C b cap : Nat) (hR : R ≤ 32) (hC : C ≤ 32) (hcap : R * C ≤ cap) (hcm : cap ≤ maxLen) (M : Mat) (hB : Bnd (2 ^ m) R C M) (w : World) (hM : MatB w b R C M) :
  Calls Tryz.prog 152 #[.agg (matV m R C b cap)] w fun e w' => e = .returned (.bool true) ∧ Below w.heap.size w w' := by
 have HC := Lib.hid (fun t => (valid_con m hm R C cap M hB b w.heap.size (w.alloc (.cells #[.int .i64 (m : Int), .int .i64 (R : Int), .int .i64 (C : Int), .slice (some ⟨b, 0, none⟩) (R * C) cap] t)) hcap hcm (hM.below (al_below w _)) (mat_box w m _ _ _ t)).mono
  (fun e w' h => show e = .returned (.bool false) ∧ Below w.heap.size w w' from ⟨h.1, (al_below w _).trans (h.2.mono (al_below w _).size)⟩))
 have hm1 : decide ((R : Int) < 0) = false := decide_eq_false (by omega)
 have hm2 : decide ((C : Int) < 0) = false := decide_eq_false (by omega)
 have hm3 : decide (32 < (R : Int)) = false := decide_eq_false (by omega)
 have hm4 : decide (32 < (C : Int)) = false := decide_eq_false (by omega)
 have h4 : R * C ≤ 32 * 32 := Nat.mul_le_mul hR hC
 have hw1 : IntKind.i64.wrap ((R : Int) * (C : Int)) = ((R * C : Nat) : Int) := by
  rw [show (R : Int) * (C : Int) = ((R * C : Nat) : Int) by simp]; exact wrap_nat (by omega)
 unfold matV
 generalize R * C = N at *
 clear hB hM h4 hcap hcm hR hC
 have hmx : (((m : Int) != 8) = false) ∨ (((m : Int) != 8) = true ∧ ((m : Int) != 16) = false) := by rcases hm with rfl | rfl; exact .inl rfl; exact .inr ⟨rfl, rfl⟩
 clear hm
 have hrc : (C < R ∧ ¬ R < C) ∨ (¬ C < R ∧ R < C) ∨ (¬ C < R ∧ ¬ R < C) := by omega
 rcases hmx with f8 | ⟨f8, f16⟩
 ·rcases hrc with ⟨q1, q2⟩ | ⟨q1, q2⟩ | ⟨q1, q2⟩
  ·go_enter Tryz.func152, Tryz.ntmps152
   go_wp2_with (go_at_call 41; refine (HC.out _).mono ?_; rintro e w1 ⟨rfl, h1⟩)
   all_goals
    go_ret
    exact ⟨rfl, h1⟩
  ·go_enter Tryz.func152, Tryz.ntmps152
   go_wp2_with (go_at_call 41; refine (HC.out _).mono ?_; rintro e w1 ⟨rfl, h1⟩)
   all_goals
    go_ret
    exact ⟨rfl, h1⟩
  ·go_enter Tryz.func152, Tryz.ntmps152
   go_wp2_with (go_at_call 41; refine (HC.out _).mono ?_; rintro e w1 ⟨rfl, h1⟩)
   all_goals
    go_ret
    exact ⟨rfl, h1⟩
 ·rcases hrc with ⟨q1, q2⟩ | ⟨q1, q2⟩ | ⟨q1, q2⟩
  ·go_enter Tryz.func152, Tryz.ntmps152
   go_wp2_with (go_at_call 41; refine (HC.out _).mono ?_; rintro e w1 ⟨rfl, h1⟩)
   all_goals
    go_ret
    exact ⟨rfl, h1⟩
  ·go_enter Tryz.func152, Tryz.ntmps152
   go_wp2_with (go_at_call 41; refine (HC.out _).mono ?_; rintro e w1 ⟨rfl, h1⟩)
   all_goals
    go_ret
    exact ⟨rfl, h1⟩
  ·go_enter Tryz.func152, Tryz.ntmps152
   go_wp2_with (go_at_call 41; refine (HC.out _).mono ?_; rintro e w1 ⟨rfl, h1⟩)
   all_goals
    go_ret
    exact ⟨rfl, h1⟩
end Go.Proofs.YteikbikopgabjaaGreatDoor
