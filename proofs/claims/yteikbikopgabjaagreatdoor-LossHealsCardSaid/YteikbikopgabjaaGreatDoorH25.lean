import Derived.Test.YteikbikopgabjaaGreatDoorH23
/- Part 25 of a proof; the last part says what is proved. -/
namespace Go.Proofs.YteikbikopgabjaaGreatDoor
open Go.RowKit Go.GF Go.Sl
theorem box_start (w : World) (c : Array Value) (t : TypeId) : Box (w.alloc (.cells c t)) w.heap.size c := ⟨t, World.alloc_heap_new w _⟩
set_option maxRecDepth 20000 in
set_option maxHeartbeats 2000000 in
theorem independent_any (m : Nat) (hm : isF m) (R C b cap : Nat) (hR : R ≤ 32) (hC : C ≤ 32) (hR0 : 0 < R) (hC0 : 0 < C) (hcap : R * C ≤ cap) (hcm : cap ≤ maxLen) (M : Mat) (hB : Bnd (2 ^ m) R C M) (w : World) (hT : TabF w) (hM : MatB w b R C M) :
  Calls Tryz.prog 142 #[.agg (matV m R C b cap)] w fun e w' => ∃ v, e = .returned v ∧ RowI w' v (intsV (natsI (redM (mulC m) (invC m) C R (fun i j => M j i)).1)) ∧ Below w.heap.size w w' := by
 have HTR := Lib.hid (fun W (hM : MatB W b R C M) => transpose_any m hm R C b cap hR hC hR0 hC0 hcap hcm M hB W hM)
 have HRE := Lib.hid (fun b' (hb : 3 < b') W hT hM => mreduce_any m hm C R b' (C * R) hC hR hR0 (Nat.le_refl _) hb (fun i j => M j i) (fun i hi j hj => hB j hj i hi) W hT hM)
 have H0 := Lib.hid (And.intro hT hM)
 clear hT hM hB hm hcap hcm
 unfold matV
 go_enter Tryz.func142, Tryz.ntmps142
 go_wp2_with first
  | (go_at_call 154; refine (HTR.out _ (H0.out.2.below (al_below w _))).mono ?_; rintro e w1 ⟨b', rfl, h1, h2, h3⟩; have hb1 := (al_below w _).trans (h3.mono (al_below w _).size); have hT1 := H0.out.1.below hb1; have h0b : 3 < b' := Nat.lt_of_lt_of_le H0.out.1.pos (Nat.le_trans (al_below w _).size h1); unfold matV)
  | (go_at_call 155; refine (HRE.out b' h0b _ (hT1.below (al_below w1 _)) (h2.below (al_below w1 _))).mono ?_; rintro e w2 ⟨v, rfl, h4, h5⟩)
 go_ret
 have hb2 : Below w.heap.size w w2 := (hb1.trans ((al_below w1 _).mono hb1.size)).trans (h5.below (Nat.le_trans (al_below w _).size h1) (Nat.le_trans hb1.size (al_below w1 _).size))
 exact ⟨v, rfl, h4, hb2⟩
end Go.Proofs.YteikbikopgabjaaGreatDoor
namespace Go.GF
open Go Go.RowKit
def rowL (C : Nat) (M : Mat) (i : Nat) : List Int := (List.range C).map fun j => ((M i j : Nat) : Int)
theorem rowL_len (C : Nat) (M : Mat) (i : Nat) : (rowL C M i).length = C := by unfold rowL; simp
theorem rowL_at {C : Nat} {M : Mat} {i j : Nat} (h : j < C) : (rowL C M i)[j]? = some ((M i j : Nat) : Int) := by
 unfold rowL; rw [List.getElem?_map, List.getElem?_range h]; rfl
def rowsL (C : Nat) (M : Mat) (us : List Nat) : List Int := us.flatMap (rowL C M)
theorem rowsL_len (C : Nat) (M : Mat) : ∀ us : List Nat, (rowsL C M us).length = us.length * C
 | [] => by simp [rowsL]
 | u :: us => by
  have := rowsL_len C M us
  unfold rowsL at this ⊢
  rw [List.flatMap_cons, List.length_append, this, rowL_len, List.length_cons, Nat.add_mul]; omega
theorem rowsL_app (C : Nat) (M : Mat) (us : List Nat) (u : Nat) : rowsL C M (us ++ [u]) = rowsL C M us ++ rowL C M u := by unfold rowsL; simp
theorem rowsL_at (C : Nat) (M : Mat) : ∀ (us : List Nat) (i j u : Nat), us[i]? = some u → j < C → (rowsL C M us)[i * C + j]? = some ((M u j : Nat) : Int)
 | [], _, _, _, h, _ => by simp at h
 | x :: us, 0, j, u, h, hj => by
  simp at h; subst h
  unfold rowsL
  rw [List.flatMap_cons, Nat.zero_mul, Nat.zero_add, List.getElem?_append_left (by rw [rowL_len]; exact hj)]
  exact rowL_at hj
 | x :: us, i + 1, j, u, h, hj => by
  have ih := rowsL_at C M us i j u (by simpa using h) hj
  unfold rowsL at ih ⊢
  rw [List.flatMap_cons, Nat.add_mul, Nat.one_mul, List.getElem?_append_right (by rw [rowL_len]; omega), rowL_len, show i * C + C + j - C = i * C + j by omega]
  exact ih
theorem intsV_app (a b : List Int) : intsV (a ++ b) = intsV a ++ intsV b := by unfold intsV; simp
end Go.GF
namespace Go.Proofs.YteikbikopgabjaaGreatDoor
open Go.RowKit Go.GF Go.Sl
theorem run_apL {w : World} {base : Nat} {v : Value} {L : List Int} (hown : OwnI base w v L) (b off c : Nat) (L2 : List Int) (hc : ∀ j u, L2[j]? = some u → w.cell? ⟨b, off + j, none⟩ = some (.int .i64 u)) (hn : L.length + L2.length ≤ 100000) (hbase : base ≤ w.heap.size) :
  ∃ v' w', (Builtin.append_ #[36, 36] 36 #[v, .slice (some ⟨b, off, none⟩) L2.length c]).run Tryz.prog w = .ok v' w' ∧ OwnI base w' v' (L ++ L2) ∧ Below base w w' := by
 obtain ⟨i0, hi, hz0, hz1, hz2⟩ := info_parts info_int3
 obtain ⟨v', w', hr, h2, h3, h4⟩ := run_append_own (P := Tryz.prog) w base 36 36 TI i0 (.int .i64 0) 1 8 Tryz.underlying36 hi hz0 hz1 hz2 rfl (by decide) v L.length (intsV L) hown ⟨b, off, none⟩ L2.length c (intsV L2) (by rw [intsV_len, Nat.mul_one])
  (by
   intro j u hu
   unfold intsV at hu
   rw [List.getElem?_map] at hu
   obtain ⟨x, hx, rfl⟩ := Option.map_eq_some_iff.1 hu
   rw [Addr.add_mid]; exact hc j x hx)
  (by
   intro u hu
   unfold intsV at hu
   obtain ⟨x, -, rfl⟩ := List.mem_map.1 hu
   rfl) (by unfold maxLen; omega) (by omega) hbase
 refine ⟨v', w', hr, ?_, (Below.refl base w).grown h3 hbase fun k hk => (World.ownsRow.lt hown k hk).1⟩
 show w'.ownsRow base TI 1 v' (L ++ L2).length (intsV (L ++ L2))
 rw [intsV_app, List.length_append]
 exact h2
theorem exec_appJ {P : Program} {a : Act} {o : Oper} {w w' : World} {T : TypeId} {s x : Operand} {v y r : Value} (ho : o.op = .call { callee := .builtin .append, args := #[s, x], argTypes := #[T, T] }) (ht : o.type = T) (hs : a.eval s = v) (hx : a.eval x = y)
  (h : (Builtin.append_ #[T, T] T #[v, y]).run P w = .ok r w') : (execOp a.eval o).run P w = .ok (.value r) w' := by
 unfold execOp
 simp only [ho, ht, resolve, invoke, builtin, Sem.run_bind, Sem.run_pure, Result.andThen_ok, List.map_toArray, List.map_cons, List.map_nil, hs, hx, h]
theorem exec_stS {a : Act} {o : Oper} {w : World} {x y : Operand} {ad : Addr} {base : Nat} {v u : Value} {L : List Int} (ho : o.op = .store 36 x y) (hx : a.eval x = .pointer (some ad)) (hy : a.eval y = v) (hv : OwnI base w v L) (hc : w.cell? ad = some u) (hf : w.frozen? ad = false) :
  (execOp a.eval o).run Tryz.prog w = .ok .skip (w.setCell ad v) := by
 obtain ⟨ti, hti, hts⟩ := Option.map_eq_some_iff.1 (show (Tryz.prog.info? 36).map (·.size) = some 1 by kernel_rfl)
 obtain ⟨ao, cap, rfl⟩ := hv.shape
 exact exec_store_cell ho hx hy hti hts rfl hc hf
def pkV (m n C : Nat) (v : Value) : Array Value := #[.int .i64 (m : Int), .int .i64 (n : Int), .int .i64 (C : Int), v]
structure PkF (w0 : World) (b R C m cap : Nat) (M : Mat) (base gA gR gP n : Nat) (us : List Nat) (rv v : Value) (wr : World) : Prop where
 bM : MatB wr b R C M
 bA : Box wr gA (matV m R C b cap)
 bR : Box wr gR zmatV
 bP : Box wr gP (pkV m n C v)
 own : OwnI base wr v (rowsL C M us)
 bl : Below w0.heap.size w0 wr
 sz : base ≤ wr.heap.size
 ne : b < base ∧ gA < base ∧ gR < base ∧ gP < base ∧ w0.heap.size ≤ base ∧ w0.heap.size ≤ gP ∧ w0.heap.size ≤ gR ∧ b ≠ gP ∧ gA ≠ gP ∧ gR ≠ gP ∧ b ≠ gR ∧ b < w0.heap.size
section
variable {w0 wr wr' : World} {b R C m cap : Nat} {M : Mat} {base gA gR gP n : Nat} {us : List Nat} {rv v : Value}
theorem PkF.below (h : PkF w0 b R C m cap M base gA gR gP n us rv v wr) (hb : Below wr.heap.size wr wr') : PkF w0 b R C m cap M base gA gR gP n us rv v wr' :=
 ⟨h.bM.below hb, h.bA.below hb, h.bR.below hb, h.bP.below hb, h.own.below hb, h.bl.trans (hb.mono h.bl.size), Nat.le_trans h.sz hb.size, h.ne⟩
theorem PkF.drew (h : PkF w0 b R C m cap M base gA gR gP n us rv v wr) : PkF w0 b R C m cap M base gA gR gP n us rv v wr.drew :=
 ⟨h.bM.keep rfl, h.bA.keep rfl, h.bR.keep rfl, h.bP.keep rfl, h.own.keep (fun _ _ _ => rfl), h.bl.drew, h.sz, h.ne⟩
theorem PkF.next {w1 w2 : World} {u : Nat} {v' : Value} (h : PkF w0 b R C m cap M base gA gR gP n us rv v w1) (h2 : OwnI base w2 v' (rowsL C M us ++ rowL C M u)) (h3 : Below base w1 w2) :
  PkF w0 b R C m cap M base gA gR gP n (us ++ [u]) rv v' (w2.setCell ⟨gP, 3, none⟩ v') := by
 obtain ⟨n1, n2, n3, n4, n5, n6, n7, n8, n9, n10, n11, n12⟩ := h.ne
 have hb := But.set gP 3 w2 v'
 have hk : ∀ k, k < base → k ≠ gP → (w2.setCell ⟨gP, 3, none⟩ v').heap[k]? = w1.heap[k]? := fun k hk hne => (hb.block k (Nat.lt_of_lt_of_le hk (Nat.le_trans h.sz h3.size)) hne).trans (h3.block k hk)
 obtain ⟨t, hP⟩ := h.bP
 have hP2 : w2.heap[gP]? = some (.cells (pkV m n C v) t (0, 0)) := (h3.block gP n4).trans hP
 refine ⟨h.bM.keep (hk b n1 n8), h.bA.keep (hk gA n2 n9), h.bR.keep (hk gR n3 n10), ⟨t, ?_⟩, ?_, ?_, ?_, h.ne⟩
 ·rw [heap_setCell_same w2 gP 3 _ t v' hP2]; simp [pkV]
 ·rw [rowsL_app]; exact h2.but hb n4
 ·exact (h.bl.trans (h3.mono n5)).trans (hb.below n6 (Nat.le_trans h.bl.size h3.size))
 ·exact Nat.le_trans (Nat.le_trans h.sz h3.size) hb.size
theorem PkF.pk (h : PkF w0 b R C m cap M base gA gR gP n us rv v wr) : wr.cell? ⟨gP, 0, none⟩ = some (.int .i64 (m : Int)) ∧ wr.cell? ⟨gP, 1, none⟩ = some (.int .i64 (n : Int)) ∧ wr.cell? ⟨gP, 2, none⟩ = some (.int .i64 (C : Int)) ∧ wr.cell? ⟨gP, 3, none⟩ = some v :=
 ⟨h.bP.cell 0, h.bP.cell 1, h.bP.cell 2, h.bP.cell 3⟩
theorem PkF.mat (h : PkF w0 b R C m cap M base gA gR gP n us rv v wr) (h0 : 0 < us.length * C) : ∃ g cp, v = .slice (some ⟨g, 0, none⟩) (us.length * C) cp ∧ us.length * C ≤ cp ∧ cp ≤ maxLen ∧ base ≤ g ∧ MatB wr g us.length C (fun i j => M ((us[i]?).getD 0) j) := by
 have hl := rowsL_len C M us
 rcases h.own.2 with ⟨rfl, hn⟩ | ⟨g, cp, cur, hv, hb, hg, h1, h2, h3, h4⟩
 ·rw [hl] at hn; omega
 ·rw [hl] at hv h1 h4
  refine ⟨g, cp, hv, h1, h2, hb, ⟨cur, TI, hg, by omega, fun i hi j hj => ?_⟩⟩
  have hlt := idx_lt hi hj
  obtain ⟨u, hu⟩ : ∃ u, us[i]? = some u := ⟨_, List.getElem?_eq_getElem hi⟩
  have h5 := rowsL_at C M us i j u hu hj
  have h6 : (intsV (rowsL C M us))[i * C + j]? = some (.int .i64 ((M u j : Nat) : Int)) := intsV_at h5
  rw [← h4, List.getElem?_take, if_pos (by omega)] at h6
  rw [hu]
  simpa using h6
structure PkO (w0 : World) (b R C m cap : Nat) (M : Mat) (base gA gR gP n : Nat) (us : List Nat) (rv : Value) (k : Value) (wr : World) : Prop where
 st : ∃ (i : Nat) (v : Value), i ≤ us.length ∧ k = .int .i64 (i : Int) ∧ PkF w0 b R C m cap M base gA gR gP n (us.take i) rv v wr
end
theorem pk_start (w w1 : World) (m R C b cap n : Nat) (M : Mat) (rv : Value) (t : TypeId) (hM : MatB w b R C M) (hA : Box w1 w.heap.size (matV m R C b cap)) (hR : Box w1 (w.heap.size + 1) zmatV) (h1 : Below w.heap.size w w1) (hs : w.heap.size + 2 ≤ w1.heap.size) :
  PkF w b R C m cap M (w1.heap.size + 1) w.heap.size (w.heap.size + 1) w1.heap.size n [] rv (.slice none 0 0) (w1.alloc (.cells (pkV m n C (.slice none 0 0)) t)) := by
 have h3 := al_below w1 (.cells (pkV m n C (.slice none 0 0)) t)
 have hl := hM.lt
 exact ⟨(hM.below h1).below h3, hA.below h3, hR.below h3, ⟨t, World.alloc_heap_new w1 _⟩, OwnI.nil _ _, h1.trans (h3.mono h1.size), by simp, by omega, by omega, by omega, by omega, by omega, by omega, by omega, by omega, by omega, by omega, by omega, by omega⟩
set_option maxRecDepth 20000 in
set_option maxHeartbeats 4000000 in
theorem pick_any (m : Nat) (hm : isF m) (R C b cap : Nat) (hR : R ≤ 32) (hC : C ≤ 32) (hC0 : 0 < C) (hcap : R * C ≤ cap) (hcm : cap ≤ maxLen) (M : Mat) (hB : Bnd (2 ^ m) R C M) (us : List Nat) (h32 : us.length ≤ 32) (hu0 : 0 < us.length) (hur : ∀ u ∈ us, u < R) (rv : Value) (w : World) (hM : MatB w b R C M) (hrv : RowI w rv (intsV (natsI us))) :
  Calls Tryz.prog 141 #[.agg (matV m R C b cap), rv] w fun e w' => ∃ g cp, e = .returned (.tuple #[.agg (matV m us.length C g cp), .int .i64 0]) ∧ us.length * C ≤ cp ∧ cp ≤ maxLen ∧ w.heap.size ≤ g ∧ MatB w' g us.length C (fun i j => M ((us[i]?).getD 0) j) ∧ Below w.heap.size w w' := by
 have HV := Lib.hid (fun W (hb : Below w.heap.size w W) => mvalid_any m hm R C b cap hR hC hcap hcm M hB W (hM.below hb))
 have HRA := Lib.hid (fun i (hi : i < R) W => row_any m R C b cap i hi hR hC hC0 hcap W)
 have HRV := Lib.hid (fun W (hb : Below w.heap.size w W) => hrv.below hb)
 have HS := Lib.hid (fun t t' w1 h => tr_start w m R C b cap t t' w1 h)
 have HP := Lib.hid (fun w1 t hA hR h1 hs => pk_start w w1 m R C b cap us.length M rv t hM hA hR h1 hs)
 have h4 : us.length * C ≤ 32 * 32 := Nat.mul_le_mul h32 hC
 have HX := Lib.hid (And.intro hur (And.intro (Nat.mul_pos hu0 hC0) h4))
 obtain ⟨ao, cp, rfl, -, -, -⟩ := hrv
 rw [intsV_len, natsI_len] at *
 have hl32 : decide (32 < (us.length : Int)) = false := decide_eq_false (by omega)
 have hu32 : (us.length : Int) ≤ 32 := by omega
 clear hM hB hm hcap hcm hur hu0 h4
 unfold matV
 go_enter Tryz.func141, Tryz.ntmps141
 go_wp2_with (go_at_call 152; refine (HV.out _ ((al_below w _).trans ((al_below _ _).mono (by simp)))).mono ?_; rintro e w1 ⟨rfl, h1⟩; obtain ⟨hA, hZ, hb1, hs1⟩ := HS.out _ _ w1 h1; obtain ⟨a0, a1, a2, -⟩ := hA.mat; clear h1)
 have HF := Lib.hid (HP.out w1 TM hA hZ hb1 hs1)
 clear hA hZ hb1 hs1 a0 a1 a2 HV HS HP
 unfold pkV at HF
 generalize hgP : w1.heap.size = gP at *
 obtain ⟨base, hbase⟩ : ∃ base, gP + 1 = base := ⟨_, rfl⟩
 rw [hbase] at HF
 clear hgP hbase
 go_loopw [27] (fun k wr => PkO w b R C m cap M base w.heap.size (w.heap.size + 1) gP us.length us (.slice ao us.length cp) k wr) (fun k _ => us.length - (intOf k).toNat)
 case atStart => exact ⟨⟨0, _, Nat.zero_le _, rfl, HF.out⟩⟩
 case round =>
  clear HF
  obtain ⟨i, v, hi, rfl, hF⟩ := hrel.st
  clear hrel
  by_cases hlt : i < us.length
  ·have hltd : decide ((i : Int) < (us.length : Int)) = true := decide_eq_true (by omega)
   have hwi : IntKind.i64.wrap ((i : Int) + 1) = (i : Int) + 1 := IntWalk.i64_in _ (by omega)
   obtain ⟨u, hu⟩ : ∃ u, us[i]? = some u := ⟨_, List.getElem?_eq_getElem hlt⟩
   have huR : u < R := HX.out.1 u (List.mem_of_getElem? hu)
   have hu0 : decide ((u : Int) < 0) = false := decide_eq_false (by omega)
   have hu1 : decide (R ≤ u) = false := decide_eq_false (by omega)
   obtain ⟨ao', cp', hv', hc1, hc2, hrow⟩ := HRV.out wr hF.bl
   have hv2 : ao' = ao := by
    have := hv'
    simp only [Value.slice.injEq] at this
    exact this.1.symm
   subst hv2
   obtain ⟨q, off, rfl, hq, hcell⟩ := hrow (by rw [intsV_len, natsI_len]; omega)
   have e0 := hcell i (.int .i64 (u : Int)) (intsV_at (by unfold natsI; rw [List.getElem?_map, hu]; rfl))
   obtain ⟨a0, a1, a2, a3⟩ := hF.bA.mat
   have htk : us.take (i + 1) = us.take i ++ [u] := by rw [List.take_add_one, hu]; rfl
   have HF := Lib.hid hF
   have hlen := rowsL_len C M (us.take i)
   have HL := Lib.hid (show (rowsL C M (us.take i)).length + (rowL C M u).length ≤ 100000 by
    rw [hlen, rowL_len, List.length_take]
    have h1 : min i us.length * C ≤ us.length * C := Nat.mul_le_mul_right C (by omega)
    have := HX.out.2.2
    omega)
   have HTK := Lib.hid htk
   clear hF hv' hc1 hc2 hrow hcell hlen htk hu
   go_wp2
   refine regU_begin (fun w' => PkF w b R C m cap M base w.heap.size (w.heap.size + 1) gP us.length (us.take i) (.slice (some ⟨q, off, none⟩) us.length cp) v w') (by kernel_rfl) HF.out.drew ?_
   (apply regU_take 0 rfl rfl (by decide +kernel) rfl); (intro w' hw'; go_simp; rfl); simp only [zq1, zq2, zq3]
   refine regU_take 1 (v := v) rfl rfl (by decide +kernel) rfl (fun w' h => exec_load_cell rfl rfl Tryz.underlying36 rfl h.pk.2.2.2) ?_; simp only [zq1, zq2, zq3]
   refine regU_take 2 (v := .agg (matV m R C b cap)) rfl rfl (by decide +kernel) rfl (fun w' h => exec_ldM rfl rfl h.bA) ?_; simp only [zq1, zq2, zq3]
   (apply regU_take 3 rfl rfl (by decide +kernel) rfl); (intro w' hw'; go_simp; rfl); simp only [zq1, zq2, zq3]
   refine regU_call 4 (f := 153) (args := #[.agg (matV m R C b cap), .int .i64 (u : Int)]) (v := .slice (some ⟨b, u * C, none⟩) C (cap - u * C)) rfl rfl (by decide +kernel) rfl (fun w' => by kernel_rfl) (fun w' h => (HRA.out u huR w').mono fun e w'' h' => ⟨h'.1, h.below h'.2⟩) ?_
   simp only [zq1, zq2, zq3]
   refine regU_alone (S' := fun _ => True) 5 (by decide +kernel) ?_
   intro w3 h3
   obtain ⟨v', w4, hr, h4, h5⟩ := run_apL h3.own b (u * C) (cap - u * C) (rowL C M u) (by
    intro j x hx
    have hj : j < C := by
     rcases Nat.lt_or_ge j C with h | h
     ·exact h
     ·rw [List.getElem?_eq_none (by rw [rowL_len]; exact h)] at hx; cases hx
    rw [rowL_at hj] at hx
    cases hx
    exact h3.bM.cell huR hj) HL.out h3.sz
   rw [rowL_len] at hr
   refine reg_run 5 (v') (w4) rfl rfl (by decide +kernel) rfl (exec_appJ rfl rfl rfl rfl hr) (trivial) ?_; simp only [zq1, zq2, zq3]
   have HF9 := Lib.hid (h3.next h4 h5)
   obtain ⟨tP, hP⟩ := h3.bP
   have hP4 : Box w4 gP (pkV m us.length C v) := ⟨tP, (h5.block gP h3.ne.2.2.2.1).trans hP⟩
   (apply reg_take 6 rfl rfl (by decide +kernel) rfl); (intro w' hw'; go_simp; rfl); exact trivial; simp only [zq1, zq2, zq3]
   refine reg_do_last 7 (w4.setCell ⟨gP, 3, none⟩ v') rfl rfl (by decide +kernel) rfl (exec_stS rfl rfl rfl h4 (hP4.cell 3) (hP4.free 3)) ?_
   rw [← HTK.out] at HF9
   generalize w4.setCell ⟨gP, 3, none⟩ v' = w5 at *
   clear h3 h4 h5 hr hP hP4 a0 a1 a2 a3 e0
   go_wp2
   go_roundw
   case rel => exact ⟨⟨i + 1, v', hlt, rfl, HF9.out⟩⟩
   case measure => simp only [intOf]; omega
  ·have hie : i = us.length := by omega
   have hltd : decide ((i : Int) < (us.length : Int)) = false := decide_eq_false (by omega)
   have hF2 : PkF w b R C m cap M base w.heap.size (w.heap.size + 1) gP us.length us (.slice ao us.length cp) v wr := by
    have h := hF
    rw [hie, List.take_length] at h; exact h
   obtain ⟨g, cg, rfl, hg1, hg2, hg3, hg4⟩ := hF2.mat HX.out.2.1
   obtain ⟨d0, d1, d2, d3⟩ := hF2.pk
   obtain ⟨r0, r1, r2, r3, z0, z1, z2, z3⟩ := hF2.bR.zmat
   have HF := Lib.hid hF2
   have HG := Lib.hid (And.intro hg1 (And.intro hg2 (And.intro hg3 hg4)))
   clear hF hF2 hg1 hg2 hg3 hg4 hie
   go_wp2
   obtain ⟨tz, hz⟩ := HF.out.bR
   have h4 := set4 (.int .i64 (m : Int)) (.int .i64 (us.length : Int)) (.int .i64 (C : Int)) (.slice (some ⟨g, 0, none⟩) (us.length * C) cg) hz
   have hb4 := set4_but (w := wr) (g := w.heap.size + 1) (.int .i64 (m : Int)) (.int .i64 (us.length : Int)) (.int .i64 (C : Int)) (.slice (some ⟨g, 0, none⟩) (us.length * C) cg)
   refine bodyPost_ret (v := .tuple #[.agg (matV m us.length C g cg), .int .i64 0]) (resultsJ Tryz.results141 (ResJ.row rfl h4 Tryz.underlying193 rfl info_mat) (.tmp rfl)) rfl ?_
   obtain ⟨n1, n2, n3, n4, n5, n6, n7, n8, n9, n10, n11, n12⟩ := HF.out.ne
   obtain ⟨hg1, hg2, hg3, hg4⟩ := HG.out
   exact ⟨g, cg, rfl, hg1, hg2, Nat.le_trans n5 hg3, hg4.but hb4 (by omega), HF.out.bl.trans (hb4.below n7 HF.out.bl.size)⟩
end Go.Proofs.YteikbikopgabjaaGreatDoor
namespace Go.Proofs.YteikbikopgabjaaGreatDoor
open Go.RowKit Go.GF Go.Sl
structure IvSt2 (w : World) (n : Nat) (p : Nat → Bool) (i : Value) (wr : World) : Prop where
 st : ∃ k : Nat, k ≤ n ∧ i = .int .i64 (k : Int) ∧ (List.range k).any p = false ∧ Below w.heap.size w wr
set_option maxRecDepth 20000 in
set_option maxHeartbeats 2000000 in
theorem ixv_any (v : Value) (L : List Value) (f : FuncId) (cap : Array Value) (p : Nat → Bool) (w : World) (hcf : ∀ args w, (callFunc f args).run Tryz.prog w = .ok (.enter f args) w) (hv : RowI w v L)
  (hp : ∀ j x, L[j]? = some x → ∀ W, Below w.heap.size w W → Calls Tryz.prog f (#[x] ++ cap) W fun e W' => e = .returned (.bool (p j)) ∧ Below W.heap.size W W') :
  Calls Tryz.prog 140 #[v, .func (.func f) #[] cap] w fun e w' => (∃ k : Int, e = .returned (.int .i64 k) ∧ (decide (0 ≤ k)) = (List.range L.length).any p) ∧ Below w.heap.size w w' := by
 obtain ⟨ao, cp, rfl, hlc, hcm, hrow⟩ := hv
 unfold maxLen at hcm
 have hl63 : L.length ≤ 9223372036854775807 := by omega
 have HR := Lib.hid hrow
 have HP := Lib.hid hp
 clear hrow hp hlc hcm
 go_enter Tryz.func140, Tryz.ntmps140
 go_wp2
 go_loopw [8] (fun i wr => IvSt2 w L.length p i wr) (fun i _ => L.length - (intOf i).toNat)
 case atStart => exact ⟨⟨0, Nat.zero_le _, rfl, rfl, Below.refl _ _⟩⟩
 case round =>
  obtain ⟨k, hk, rfl, ha, hb⟩ := hrel.st
  clear hrel
  have HB := Lib.hid hb
  by_cases hlt : k < L.length
  ·have hltd : decide ((k : Int) < (L.length : Int)) = true := decide_eq_true (by omega)
   have hki : (k : Int) ≤ 9223372036854775806 := by omega
   obtain ⟨x, hx⟩ : ∃ x, L[k]? = some x := ⟨_, List.getElem?_eq_getElem hlt⟩
   obtain ⟨b, off, rfl, hbl, hc⟩ := HR.out (by omega)
   have e0 := (hb.cell (p := ⟨b, off + k, none⟩) hbl).trans (hc k _ hx)
   have HC := Lib.hid (HP.out k x hx wr hb)
   have HT := Lib.hid (show (List.range (k + 1)).any p = p k by rw [List.range_succ, List.any_append, ha]; simp)
   have HA := Lib.hid (fun h : p k = true => show (List.range L.length).any p = true from List.any_eq_true.2 ⟨k, List.mem_range.2 hlt, h⟩)
   clear ha hb hx hbl hc HP HR
   cases hpx : p k with
   | true =>
    rw [hpx] at HC HT
    go_wp2_with (refine HC.out.mono ?_; rintro e w1 ⟨rfl, h1⟩)
    go_ret
    exact ⟨⟨(k : Int), rfl, by rw [HA.out hpx]; exact decide_eq_true (by omega)⟩, HB.out.trans (h1.mono HB.out.size)⟩
   | false =>
    rw [hpx] at HC HT
    go_wp2_with (refine HC.out.mono ?_; rintro e w1 ⟨rfl, h1⟩)
    go_roundw
    case rel => exact ⟨⟨k + 1, by omega, rfl, HT.out, HB.out.trans (h1.mono HB.out.size)⟩⟩
    case measure => simp only [intOf]; omega
  ·have hke : k = L.length := by omega
   have hltd : decide ((k : Int) < (L.length : Int)) = false := decide_eq_false (by omega)
   have HF := Lib.hid (show (List.range L.length).any p = false by rw [← hke]; exact ha)
   clear ha hb hke HP HR
   go_wp2
   go_ret
   exact ⟨⟨-1, rfl, by rw [HF.out]; rfl⟩, HB.out⟩
set_option maxRecDepth 20000 in
theorem containsv_any (v : Value) (L : List Value) (f : FuncId) (cap : Array Value) (p : Nat → Bool) (w : World) (hcf : ∀ args w, (callFunc f args).run Tryz.prog w = .ok (.enter f args) w) (hv : RowI w v L)
  (hp : ∀ j x, L[j]? = some x → ∀ W, Below w.heap.size w W → Calls Tryz.prog f (#[x] ++ cap) W fun e W' => e = .returned (.bool (p j)) ∧ Below W.heap.size W W') :
  Calls Tryz.prog 115 #[v, .func (.func f) #[] cap] w fun e w' => e = .returned (.bool ((List.range L.length).any p)) ∧ Below w.heap.size w w' := by
 have H := Lib.hid (ixv_any v L f cap p w hcf hv hp)
 clear hv hp
 go_enter Tryz.func115, Tryz.ntmps115
 go_wp2_with (go_at_call 140; refine H.out.mono ?_; rintro e w1 ⟨⟨k, rfl, hk⟩, h1⟩)
 go_ret
 exact ⟨by rw [← hk]; rfl, h1⟩
theorem fbox (w : World) (x : Value) (t : TypeId) (W : World) (h : Below (w.alloc (.cells #[x] t)).heap.size (w.alloc (.cells #[x] t)) W) : W.cell? ⟨w.heap.size, 0, none⟩ = some x := by
 rw [h.cell (p := ⟨w.heap.size, 0, none⟩) (by simp)]
 unfold World.cell?
 rw [show (w.alloc (.cells #[x] t)).heap[w.heap.size]? = _ from World.alloc_heap_new w _]; rfl
set_option maxRecDepth 20000 in
theorem every1I (x : Value) (q : Nat) (f : FuncId) (cap : Array Value) (r : Bool) (w : World) (hcf : ∀ args w, (callFunc f args).run Tryz.prog w = .ok (.enter f args) w) (hq : w.cell? ⟨q, 0, none⟩ = some (.func (.func f) #[] cap))
  (hp : Calls Tryz.prog f (#[x] ++ cap) w fun e W' => e = .returned (.bool r) ∧ Below w.heap.size w W') :
  Calls Tryz.prog 117 #[x, .pointer (some ⟨q, 0, none⟩)] w fun e w' => e = .returned (.bool (!r)) ∧ Below w.heap.size w w' := by
 have H := Lib.hid hp
 clear hp
 go_enter Tryz.func117, Tryz.ntmps117
 go_wp2_with (refine H.out.mono ?_; rintro e w1 ⟨rfl, h1⟩)
 go_ret
 exact ⟨rfl, h1⟩
theorem every1I_run (args : Array Value) (w : World) : (callFunc 117 args).run Tryz.prog w = .ok (.enter 117 args) w := by kernel_rfl
set_option maxRecDepth 20000 in
theorem everyI (v : Value) (L : List Int) (f : FuncId) (cap : Array Value) (p : Int → Bool) (w : World) (hcf : ∀ args w, (callFunc f args).run Tryz.prog w = .ok (.enter f args) w) (hv : RowI w v (intsV L))
  (hp : ∀ x ∈ L, ∀ W, Below w.heap.size w W → Calls Tryz.prog f (#[.int .i64 x] ++ cap) W fun e W' => e = .returned (.bool (p x)) ∧ Below W.heap.size W W') :
  Calls Tryz.prog 92 #[v, .func (.func f) #[] cap] w fun e w' => e = .returned (.bool (L.all p)) ∧ Below w.heap.size w w' := by
 have HC : ∀ t, Calls Tryz.prog 41 #[v, .func (.func 117) #[] #[.pointer (some ⟨w.heap.size, 0, none⟩)]] (w.alloc (.cells #[.func (.func f) #[] cap] t)) fun e w' => e = .returned (.bool (L.any fun x => !p x)) ∧ Below w.heap.size w w' := by
  intro t
  have hb0 := al_below w (.cells #[.func (.func f) #[] cap] t)
  refine (containsf_any v L 117 #[.pointer (some ⟨w.heap.size, 0, none⟩)] (fun j => !p j) _ every1I_run (hv.below hb0) ?_).mono ?_
  ·intro x hx W hb
   have h := every1I (.int .i64 x) w.heap.size f cap (p x) W hcf (fbox w _ t W hb) (hp x hx W (hb0.trans (hb.mono hb0.size)))
   exact h
  ·rintro e w' ⟨rfl, h⟩
   exact ⟨rfl, hb0.trans (h.mono hb0.size)⟩
 have H := Lib.hid HC
 obtain ⟨ao, cp, rfl, -, -, -⟩ := hv
 clear HC hp hcf
 go_enter Tryz.func92, Tryz.ntmps92
 go_wp2_with (go_at_call 41; refine (H.out _).mono ?_; rintro e w1 ⟨rfl, h1⟩)
 go_ret
 exact ⟨by rw [List.all_eq_not_any_not]; rfl, h1⟩
set_option maxRecDepth 20000 in
theorem every1R (x : Value) (q : Nat) (f : FuncId) (cap : Array Value) (r : Bool) (w : World) (hcf : ∀ args w, (callFunc f args).run Tryz.prog w = .ok (.enter f args) w) (hq : w.cell? ⟨q, 0, none⟩ = some (.func (.func f) #[] cap))
  (hp : Calls Tryz.prog f (#[x] ++ cap) w fun e W' => e = .returned (.bool r) ∧ Below w.heap.size w W') :
  Calls Tryz.prog 116 #[x, .pointer (some ⟨q, 0, none⟩)] w fun e w' => e = .returned (.bool (!r)) ∧ Below w.heap.size w w' := by
 have H := Lib.hid hp
 clear hp
 go_enter Tryz.func116, Tryz.ntmps116
 go_wp2_with (refine H.out.mono ?_; rintro e w1 ⟨rfl, h1⟩)
 go_ret
 exact ⟨rfl, h1⟩
theorem every1R_run (args : Array Value) (w : World) : (callFunc 116 args).run Tryz.prog w = .ok (.enter 116 args) w := by kernel_rfl
set_option maxRecDepth 20000 in
theorem everyR (v : Value) (L : List Value) (f : FuncId) (cap : Array Value) (p : Nat → Bool) (w : World) (hcf : ∀ args w, (callFunc f args).run Tryz.prog w = .ok (.enter f args) w) (hv : RowI w v L)
  (hp : ∀ j x, L[j]? = some x → ∀ W, Below w.heap.size w W → Calls Tryz.prog f (#[x] ++ cap) W fun e W' => e = .returned (.bool (p j)) ∧ Below W.heap.size W W') :
  Calls Tryz.prog 90 #[v, .func (.func f) #[] cap] w fun e w' => e = .returned (.bool ((List.range L.length).all p)) ∧ Below w.heap.size w w' := by
 have HC : ∀ t, Calls Tryz.prog 115 #[v, .func (.func 116) #[] #[.pointer (some ⟨w.heap.size, 0, none⟩)]] (w.alloc (.cells #[.func (.func f) #[] cap] t)) fun e w' => e = .returned (.bool ((List.range L.length).any fun j => !p j)) ∧ Below w.heap.size w w' := by
  intro t
  have hb0 := al_below w (.cells #[.func (.func f) #[] cap] t)
  refine (containsv_any v L 116 #[.pointer (some ⟨w.heap.size, 0, none⟩)] (fun j => !p j) _ every1R_run (hv.below hb0) ?_).mono ?_
  ·intro j x hx W hb
   have h := every1R x w.heap.size f cap (p j) W hcf (fbox w _ t W hb) (hp j x hx W (hb0.trans (hb.mono hb0.size)))
   exact h
  ·rintro e w' ⟨rfl, h⟩
   exact ⟨rfl, hb0.trans (h.mono hb0.size)⟩
 have H := Lib.hid HC
 obtain ⟨ao, cp, rfl, -, -, -⟩ := hv
 clear HC hp hcf
 go_enter Tryz.func90, Tryz.ntmps90
 go_wp2_with (go_at_call 115; refine (H.out _).mono ?_; rintro e w1 ⟨rfl, h1⟩)
 go_ret
 exact ⟨by rw [List.all_eq_not_any_not]; rfl, h1⟩
end Go.Proofs.YteikbikopgabjaaGreatDoor
namespace Go.GF
open Go Go.RowKit
def codeV (nm : ByteArray) (f k : Int) (pv : Value) (dom : Int) : Array Value := #[.string nm, .int .i64 f, .int .i64 k, pv, .int .i64 dom]
def RowsI (w : World) (v : Value) (L : List (List Int)) : Prop := ∃ rvs : List Value, RowI w v rvs ∧ rvs.length = L.length ∧ ∀ (i : Nat) (x : Value), rvs[i]? = some x → ∃ r, L[i]? = some r ∧ RowI w x (intsV r)
theorem RowsI.below {w w' : World} {v : Value} {L : List (List Int)} (h : RowsI w v L) (hb : Below w.heap.size w w') : RowsI w' v L := by
 obtain ⟨rvs, h1, h2, h3⟩ := h
 refine ⟨rvs, h1.below hb, h2, fun i x hx => ?_⟩
 obtain ⟨r, h4, h5⟩ := h3 i x hx
 exact ⟨r, h4, h5.below hb⟩
def rowE (f k : Int) (r : List Int) : Bool := decide ((r.length : Int) = k) && (r.all (fun x => allB f [x]) && !(r.all fun x => x == 0))
def validE (f k : Int) (L : List (List Int)) : Bool := allB f [0] && (decide (1 ≤ k) && (decide (L.length ≤ 32) && (decide (k ≤ 32 - (L.length : Int)) && L.all (rowE f k))))
theorem Box.code {w : World} {g : Nat} {nm : ByteArray} {f k : Int} {pv : Value} {dom : Int} (h : Box w g (codeV nm f k pv dom)) : w.cell? ⟨g, 0, none⟩ = some (.string nm) ∧ w.cell? ⟨g, 1, none⟩ = some (.int .i64 f) ∧ w.cell? ⟨g, 2, none⟩ = some (.int .i64 k) ∧ w.cell? ⟨g, 3, none⟩ = some pv ∧ w.cell? ⟨g, 4, none⟩ = some (.int .i64 dom) :=
 ⟨h.cell 0, h.cell 1, h.cell 2, h.cell 3, h.cell 4⟩
end Go.GF
namespace Go.Proofs.YteikbikopgabjaaGreatDoor
open Go.RowKit Go.GF Go.Sl
theorem ev11_run (args : Array Value) (w : World) : (callFunc 93 args).run Tryz.prog w = .ok (.enter 93 args) w := by kernel_rfl
theorem ev12_run (args : Array Value) (w : World) : (callFunc 94 args).run Tryz.prog w = .ok (.enter 94 args) w := by kernel_rfl
theorem ev1_run (args : Array Value) (w : World) : (callFunc 91 args).run Tryz.prog w = .ok (.enter 91 args) w := by kernel_rfl
set_option maxRecDepth 20000 in
theorem ev11 (nm : ByteArray) (f k : Int) (pv : Value) (dom x : Int) (g : Nat) (w : World) (hT : TabF w) (hg : Box w g (codeV nm f k pv dom)) :
  Calls Tryz.prog 93 #[.int .i64 x, .pointer (some ⟨g, 0, none⟩)] w fun e w' => e = .returned (.bool (allB f [x])) ∧ Below w.heap.size w w' := by
 have H := Lib.hid (fvalid_any f x w hT)
 obtain ⟨-, c1, -⟩ := hg.code
 clear hg hT
 go_enter Tryz.func93, Tryz.ntmps93
 go_wp2_with (go_at_call 89; refine H.out.mono ?_; rintro e w1 ⟨rfl, h1⟩)
 go_ret
 exact ⟨rfl, h1⟩
set_option maxRecDepth 20000 in
theorem ev12 (x : Int) (w : World) : Calls Tryz.prog 94 #[.int .i64 x] w fun e w' => e = .returned (.bool (x == 0)) ∧ Below w.heap.size w w' := by
 go_enter Tryz.func94, Tryz.ntmps94
 go_wp2
 go_ret
 exact ⟨rfl, Below.refl _ _⟩
set_option maxRecDepth 20000 in
set_option maxHeartbeats 1000000 in
theorem ev1 (nm : ByteArray) (f k : Int) (pv : Value) (dom : Int) (g : Nat) (x : Value) (r : List Int) (w : World) (hT : TabF w) (hg : Box w g (codeV nm f k pv dom)) (hx : RowI w x (intsV r)) :
  Calls Tryz.prog 91 #[x, .pointer (some ⟨g, 0, none⟩)] w fun e w' => e = .returned (.bool (rowE f k r)) ∧ Below w.heap.size w w' := by
 have H1 := Lib.hid (everyI x r 93 #[.pointer (some ⟨g, 0, none⟩)] (fun x => allB f [x]) w ev11_run hx (fun y _ W hb => by
  have h := ev11 nm f k pv dom y g W (hT.below hb) (hg.below hb)
  exact h))
 have H2 := Lib.hid (fun W (hb : Below w.heap.size w W) => everyI x r 94 #[] (fun x => x == 0) W ev12_run (hx.below hb) (fun y _ W' _ => by
  have h := ev12 y W'
  exact h))
 obtain ⟨-, -, c2, -⟩ := hg.code
 obtain ⟨ao, cp, rfl, -, -, -⟩ := hx
 rw [intsV_len] at *
 clear hg hT
 unfold rowE
 by_cases hk : (r.length : Int) = k
 ·have hkd : ((r.length : Int) == k) = true := by simpa using hk
  rw [decide_eq_true hk]
  clear hk
  cases ha : r.all (fun x => allB f [x]) with
  | false =>
   rw [ha] at H1
   go_enter Tryz.func91, Tryz.ntmps91
   go_wp2_with (go_at_call 92; refine H1.out.mono ?_; rintro e w1 ⟨rfl, h1⟩)
   go_ret
   exact ⟨rfl, h1⟩
  | true =>
   rw [ha] at H1
   go_enter Tryz.func91, Tryz.ntmps91
   go_wp2_with first
    | (go_at_call 92; refine H1.out.mono ?_; rintro e w1 ⟨rfl, h1⟩)
    | (go_at_call 92; refine (H2.out w1 h1).mono ?_; rintro e w2 ⟨rfl, h2⟩)
   go_ret
   exact ⟨rfl, h1.trans (h2.mono h1.size)⟩
 ·have hkd : ((r.length : Int) == k) = false := by simpa using hk
  rw [decide_eq_false hk]
  clear hk
  go_enter Tryz.func91, Tryz.ntmps91
  go_wp2
  go_ret
  exact ⟨rfl, Below.refl _ _⟩
theorem code_box (w w1 : World) (c : Array Value) (t : TypeId) (h : Below (w.alloc (.cells c t)).heap.size (w.alloc (.cells c t)) w1) : Box w1 w.heap.size c ∧ Below w.heap.size w w1 :=
 ⟨(box_start w c t).below h, (al_below w _).trans (h.mono (al_below w _).size)⟩
set_option maxRecDepth 20000 in
set_option maxHeartbeats 2000000 in
theorem evalid_any (nm : ByteArray) (f k : Int) (pv : Value) (dom : Int) (L : List (List Int)) (w : World) (hT : TabF w) (hp : RowsI w pv L) (hk63 : -9223372036854775808 ≤ k ∧ k ≤ 9223372036854775807) :
  Calls Tryz.prog 66 #[.agg (codeV nm f k pv dom)] w fun e w' => e = .returned (.bool (validE f k L)) ∧ Below w.heap.size w w' := by
 obtain ⟨rvs, hv, hlen, hrows⟩ := hp
 have HV := Lib.hid (fun t => (fvalid_any f 0 (w.alloc (.cells (codeV nm f k pv dom) t)) (hT.below (al_below w _))))
 have HE := Lib.hid (fun w1 (hb : Below w.heap.size w w1) (hg : Box w1 w.heap.size (codeV nm f k pv dom)) => everyR pv rvs 91 #[.pointer (some ⟨w.heap.size, 0, none⟩)] (fun i => rowE f k ((L[i]?).getD [])) w1 ev1_run (hv.below hb) (fun i x hx W hb2 => by
  obtain ⟨r, hr, hxr⟩ := hrows i x hx
  have hbW := hb.trans (hb2.mono hb.size)
  have h := ev1 nm f k pv dom w.heap.size x r W (hT.below hbW) (hg.below hb2) (hxr.below hbW)
  rw [hr]
  exact h))
 have hall : ((List.range rvs.length).all fun i => rowE f k ((L[i]?).getD [])) = L.all (rowE f k) := by
  rw [hlen]
  rw [Bool.eq_iff_iff, List.all_eq_true, List.all_eq_true]
  constructor
  ·intro h r hr
   obtain ⟨i, hi⟩ := List.mem_iff_getElem?.1 hr
   have hlt : i < L.length := by
    rcases Nat.lt_or_ge i L.length with h' | h'
    ·exact h'
    ·rw [List.getElem?_eq_none h'] at hi; cases hi
   have := h i (List.mem_range.2 hlt)
   rw [hi] at this; exact this
  ·intro h i hi
   have hlt := List.mem_range.1 hi
   rw [List.getElem?_eq_getElem hlt]
   exact h _ (List.getElem_mem hlt)
 rw [hall] at HE
 have HB := Lib.hid (fun t w1 h => code_box w w1 (codeV nm f k pv dom) t h)
 obtain ⟨ao, cp, rfl, hl1, hl2, -⟩ := hv
 rw [hlen] at *
 unfold maxLen at hl2
 clear hT hrows hall
 unfold validE codeV
 cases ha : allB f [0] with
 | false =>
  rw [ha] at HV
  go_enter Tryz.func66, Tryz.ntmps66
  go_wp2_with (go_at_call 89; refine (HV.out _).mono ?_; rintro e w1 ⟨rfl, h1⟩)
  go_ret
  exact ⟨rfl, (HB.out _ w1 h1).2⟩
 | true =>
  rw [ha] at HV
  by_cases hk1 : 1 ≤ k
  ·have hk1d : decide (k < 1) = false := decide_eq_false (by omega)
   rw [decide_eq_true hk1]
   by_cases hl32 : L.length ≤ 32
   ·have hl32d : decide (32 < (L.length : Int)) = false := decide_eq_false (by omega)
    have hws : IntKind.i64.wrap (32 - (L.length : Int)) = 32 - (L.length : Int) := IntWalk.i64_in _ (by omega)
    rw [decide_eq_true hl32]
    by_cases hks : k ≤ 32 - (L.length : Int)
    ·have hksd : decide (32 - (L.length : Int) < k) = false := decide_eq_false (by omega)
     rw [decide_eq_true hks]
     clear hks hl32 hk1
     go_enter Tryz.func66, Tryz.ntmps66
     go_wp2_with first
      | (go_at_call 89; refine (HV.out _).mono ?_; rintro e w1 ⟨rfl, h1⟩; obtain ⟨hg, hb⟩ := HB.out _ w1 h1; obtain ⟨c0, c1, c2, c3, -⟩ := hg.code)
      | (go_at_call 90; refine (HE.out w1 hb hg).mono ?_; rintro e w2 ⟨rfl, h2⟩)
     go_ret
     exact ⟨rfl, hb.trans (h2.mono hb.size)⟩
    ·have hksd : decide (32 - (L.length : Int) < k) = true := decide_eq_true (by omega)
     rw [decide_eq_false hks]
     clear hks hl32 hk1
     go_enter Tryz.func66, Tryz.ntmps66
     go_wp2_with (go_at_call 89; refine (HV.out _).mono ?_; rintro e w1 ⟨rfl, h1⟩; obtain ⟨hg, hb⟩ := HB.out _ w1 h1; obtain ⟨c0, c1, c2, c3, -⟩ := hg.code)
     go_ret
     exact ⟨rfl, hb⟩
   ·have hl32d : decide (32 < (L.length : Int)) = true := decide_eq_true (by omega)
    rw [decide_eq_false hl32]
    clear hl32 hk1
    go_enter Tryz.func66, Tryz.ntmps66
    go_wp2_with (go_at_call 89; refine (HV.out _).mono ?_; rintro e w1 ⟨rfl, h1⟩; obtain ⟨hg, hb⟩ := HB.out _ w1 h1; obtain ⟨c0, c1, c2, c3, -⟩ := hg.code)
    go_ret
    exact ⟨rfl, hb⟩
  ·have hk1d : decide (k < 1) = true := decide_eq_true (by omega)
   rw [decide_eq_false hk1]
   clear hk1
   go_enter Tryz.func66, Tryz.ntmps66
   go_wp2_with (go_at_call 89; refine (HV.out _).mono ?_; rintro e w1 ⟨rfl, h1⟩; obtain ⟨hg, hb⟩ := HB.out _ w1 h1; obtain ⟨c0, c1, c2, c3, -⟩ := hg.code)
   go_ret
   exact ⟨rfl, hb⟩
end Go.Proofs.YteikbikopgabjaaGreatDoor
