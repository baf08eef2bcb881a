/- package matrix: Pick. -/
import Derived.Test.YtnilepaicnnbhaaDoorJn
namespace Go.GF
open Go Go.RowKit
/-- The cells of a row of a matrix. -/
def rowL (C : Nat) (M : Mat) (i : Nat) : List Int := (List.range C).map fun j => ((M i j : Nat) : Int)
theorem rowL_len (C : Nat) (M : Mat) (i : Nat) : (rowL C M i).length = C := by unfold rowL; simp
theorem rowL_at {C : Nat} {M : Mat} {i j : Nat} (h : j < C) : (rowL C M i)[j]? = some ((M i j : Nat) : Int) := by
  unfold rowL; rw [List.getElem?_map, List.getElem?_range h]; rfl
/-- The cells of rows, one after the other. -/
def rowsL (C : Nat) (M : Mat) (us : List Nat) : List Int := us.flatMap (rowL C M)
theorem rowsL_len (C : Nat) (M : Mat) : ∀ us : List Nat, (rowsL C M us).length = us.length * C
  | [] => by simp [rowsL]
  | u :: us => by
    have := rowsL_len C M us
    unfold rowsL at this ⊢
    rw [List.flatMap_cons, List.length_append, this, rowL_len, List.length_cons, Nat.add_mul]; omega
theorem rowsL_app (C : Nat) (M : Mat) (us : List Nat) (u : Nat) : rowsL C M (us ++ [u]) = rowsL C M us ++ rowL C M u := by unfold rowsL; simp
theorem rowsL_at (C : Nat) (M : Mat) : ∀ (us : List Nat) (i j u : Nat), us[i]? = some u → j < C → (rowsL C M us)[i * C + j]? = some ((M u j : Nat) : Int)
  | [], _, _, _, h, _ => by simp at h
  | x :: us, 0, j, u, h, hj => by
    simp at h; subst h
    unfold rowsL
    rw [List.flatMap_cons, Nat.zero_mul, Nat.zero_add, List.getElem?_append_left (by rw [rowL_len]; exact hj)]
    exact rowL_at hj
  | x :: us, i + 1, j, u, h, hj => by
    have ih := rowsL_at C M us i j u (by simpa using h) hj
    unfold rowsL at ih ⊢
    rw [List.flatMap_cons, Nat.add_mul, Nat.one_mul, List.getElem?_append_right (by rw [rowL_len]; omega), rowL_len, show i * C + C + j - C = i * C + j by omega]
    exact ih
theorem intsV_app (a b : List Int) : intsV (a ++ b) = intsV a ++ intsV b := by unfold intsV; simp
end Go.GF
namespace Go.Proofs.YtnilepaicnnbhaaDoor
open Go.RowKit Go.GF Go.Sl

/-- append of integers that can be read. -/
theorem run_apL {w : World} {base : Nat} {v : Value} {L : List Int} (hown : OwnI base w v L) (b off c : Nat) (L2 : List Int) (hc : ∀ j u, L2[j]? = some u → w.cell? ⟨b, off + j, none⟩ = some (.int .i64 u)) (hn : L.length + L2.length ≤ 100000) (hbase : base ≤ w.heap.size) :
    ∃ v' w', (Builtin.append_ #[26, 26] 26 #[v, .slice (some ⟨b, off, none⟩) L2.length c]).run Tryd.prog w = .ok v' w' ∧ OwnI base w' v' (L ++ L2) ∧ Below base w w' := by
  obtain ⟨i0, hi, hz0, hz1, hz2⟩ := info_parts info_int3
  obtain ⟨v', w', hr, h2, h3, h4⟩ := run_append_own (P := Tryd.prog) w base 26 26 TI i0 (.int .i64 0) 1 8 Tryd.underlying26 hi hz0 hz1 hz2 rfl (by decide) v L.length (intsV L) hown ⟨b, off, none⟩ L2.length c (intsV L2) (by rw [intsV_len, Nat.mul_one])
    (by
      intro j u hu
      unfold intsV at hu
      rw [List.getElem?_map] at hu
      obtain ⟨x, hx, rfl⟩ := Option.map_eq_some_iff.1 hu
      rw [Addr.add_mid]; exact hc j x hx)
    (by
      intro u hu
      unfold intsV at hu
      obtain ⟨x, -, rfl⟩ := List.mem_map.1 hu
      rfl) (by unfold maxLen; omega) (by omega) hbase
  refine ⟨v', w', hr, ?_, (Below.refl base w).grown h3 hbase fun k hk => (World.ownsRow.lt hown k hk).1⟩
  show w'.ownsRow base TI 1 v' (L ++ L2).length (intsV (L ++ L2))
  rw [intsV_app, List.length_append]
  exact h2

theorem exec_appJ {P : Program} {a : Act} {o : Oper} {w w' : World} {T : TypeId} {s x : Operand} {v y r : Value} (ho : o.op = .call { callee := .builtin .append, args := #[s, x], argTypes := #[T, T] }) (ht : o.type = T) (hs : a.eval s = v) (hx : a.eval x = y)
    (h : (Builtin.append_ #[T, T] T #[v, y]).run P w = .ok r w') : (execOp a.eval o).run P w = .ok (.value r) w' := by
  unfold execOp
  simp only [ho, ht, resolve, invoke, builtin, Sem.run_bind, Sem.run_pure, Result.andThen_ok, List.map_toArray, List.map_cons, List.map_nil, hs, hx, h]

/-- A row of integers is stored. -/
theorem exec_stS {a : Act} {o : Oper} {w : World} {x y : Operand} {ad : Addr} {base : Nat} {v u : Value} {L : List Int} (ho : o.op = .store 26 x y) (hx : a.eval x = .pointer (some ad)) (hy : a.eval y = v) (hv : OwnI base w v L) (hc : w.cell? ad = some u) (hf : w.frozen? ad = false) :
    (execOp a.eval o).run Tryd.prog w = .ok .skip (w.setCell ad v) := by
  obtain ⟨ti, hti, hts⟩ := Option.map_eq_some_iff.1 (show (Tryd.prog.info? 26).map (·.size) = some 1 by kernel_rfl)
  obtain ⟨ao, cap, rfl⟩ := hv.shape
  exact exec_store_cell ho hx hy hti hts rfl hc hf
def pkV (m n C : Nat) (v : Value) : Array Value := #[.int .i64 (m : Int), .int .i64 (n : Int), .int .i64 (C : Int), v]
structure PkF (w0 : World) (b R C m cap : Nat) (M : Mat) (base gA gR gP n : Nat) (us : List Nat) (rv v : Value) (wr : World) : Prop where
  bM : MatB wr b R C M
  bA : Box wr gA (matV m R C b cap)
  bR : Box wr gR zmatV
  bP : Box wr gP (pkV m n C v)
  own : OwnI base wr v (rowsL C M us)
  bl : Below w0.heap.size w0 wr
  sz : base ≤ wr.heap.size
  ne : b < base ∧ gA < base ∧ gR < base ∧ gP < base ∧ w0.heap.size ≤ base ∧ w0.heap.size ≤ gP ∧ w0.heap.size ≤ gR ∧ b ≠ gP ∧ gA ≠ gP ∧ gR ≠ gP ∧ b ≠ gR ∧ b < w0.heap.size
section
variable {w0 wr wr' : World} {b R C m cap : Nat} {M : Mat} {base gA gR gP n : Nat} {us : List Nat} {rv v : Value}
theorem PkF.below (h : PkF w0 b R C m cap M base gA gR gP n us rv v wr) (hb : Below wr.heap.size wr wr') : PkF w0 b R C m cap M base gA gR gP n us rv v wr' :=
  ⟨h.bM.below hb, h.bA.below hb, h.bR.below hb, h.bP.below hb, h.own.below hb, h.bl.trans (hb.mono h.bl.size), Nat.le_trans h.sz hb.size, h.ne⟩
theorem PkF.drew (h : PkF w0 b R C m cap M base gA gR gP n us rv v wr) : PkF w0 b R C m cap M base gA gR gP n us rv v wr.drew :=
  ⟨h.bM.keep rfl, h.bA.keep rfl, h.bR.keep rfl, h.bP.keep rfl, h.own.keep (fun _ _ _ => rfl), h.bl.drew, h.sz, h.ne⟩
theorem PkF.next {w1 w2 : World} {u : Nat} {v' : Value} (h : PkF w0 b R C m cap M base gA gR gP n us rv v w1) (h2 : OwnI base w2 v' (rowsL C M us ++ rowL C M u)) (h3 : Below base w1 w2) :
    PkF w0 b R C m cap M base gA gR gP n (us ++ [u]) rv v' (w2.setCell ⟨gP, 3, none⟩ v') := by
  obtain ⟨n1, n2, n3, n4, n5, n6, n7, n8, n9, n10, n11, n12⟩ := h.ne
  have hb := But.set gP 3 w2 v'
  have hk : ∀ k, k < base → k ≠ gP → (w2.setCell ⟨gP, 3, none⟩ v').heap[k]? = w1.heap[k]? := fun k hk hne => (hb.block k (Nat.lt_of_lt_of_le hk (Nat.le_trans h.sz h3.size)) hne).trans (h3.block k hk)
  obtain ⟨t, hP⟩ := h.bP
  have hP2 : w2.heap[gP]? = some (.cells (pkV m n C v) t (0, 0)) := (h3.block gP n4).trans hP
  refine ⟨h.bM.keep (hk b n1 n8), h.bA.keep (hk gA n2 n9), h.bR.keep (hk gR n3 n10), ⟨t, ?_⟩, ?_, ?_, ?_, h.ne⟩
  · rw [heap_setCell_same w2 gP 3 _ t v' hP2]; simp [pkV]
  · rw [rowsL_app]; exact h2.but hb n4
  · exact (h.bl.trans (h3.mono n5)).trans (hb.below n6 (Nat.le_trans h.bl.size h3.size))
  · exact Nat.le_trans (Nat.le_trans h.sz h3.size) hb.size
theorem PkF.pk (h : PkF w0 b R C m cap M base gA gR gP n us rv v wr) : wr.cell? ⟨gP, 0, none⟩ = some (.int .i64 (m : Int)) ∧ wr.cell? ⟨gP, 1, none⟩ = some (.int .i64 (n : Int)) ∧ wr.cell? ⟨gP, 2, none⟩ = some (.int .i64 (C : Int)) ∧ wr.cell? ⟨gP, 3, none⟩ = some v :=
  ⟨h.bP.cell 0, h.bP.cell 1, h.bP.cell 2, h.bP.cell 3⟩
/-- What was picked is a matrix. -/
theorem PkF.mat (h : PkF w0 b R C m cap M base gA gR gP n us rv v wr) (h0 : 0 < us.length * C) : ∃ g cp, v = .slice (some ⟨g, 0, none⟩) (us.length * C) cp ∧ us.length * C ≤ cp ∧ cp ≤ maxLen ∧ base ≤ g ∧ MatB wr g us.length C (fun i j => M ((us[i]?).getD 0) j) := by
  have hl := rowsL_len C M us
  rcases h.own.2 with ⟨rfl, hn⟩ | ⟨g, cp, cur, hv, hb, hg, h1, h2, h3, h4⟩
  · rw [hl] at hn; omega
  · rw [hl] at hv h1 h4
    refine ⟨g, cp, hv, h1, h2, hb, ⟨cur, TI, hg, by omega, fun i hi j hj => ?_⟩⟩
    have hlt := idx_lt hi hj
    obtain ⟨u, hu⟩ : ∃ u, us[i]? = some u := ⟨_, List.getElem?_eq_getElem hi⟩
    have h5 := rowsL_at C M us i j u hu hj
    have h6 : (intsV (rowsL C M us))[i * C + j]? = some (.int .i64 ((M u j : Nat) : Int)) := intsV_at h5
    rw [← h4, List.getElem?_take, if_pos (by omega)] at h6
    rw [hu]
    simpa using h6
structure PkO (w0 : World) (b R C m cap : Nat) (M : Mat) (base gA gR gP n : Nat) (us : List Nat) (rv : Value) (k : Value) (wr : World) : Prop where
  st : ∃ (i : Nat) (v : Value), i ≤ us.length ∧ k = .int .i64 (i : Int) ∧ PkF w0 b R C m cap M base gA gR gP n (us.take i) rv v wr
end
theorem pk_start (w w1 : World) (m R C b cap n : Nat) (M : Mat) (rv : Value) (t : TypeId) (hM : MatB w b R C M) (hA : Box w1 w.heap.size (matV m R C b cap)) (hR : Box w1 (w.heap.size + 1) zmatV) (h1 : Below w.heap.size w w1) (hs : w.heap.size + 2 ≤ w1.heap.size) :
    PkF w b R C m cap M (w1.heap.size + 1) w.heap.size (w.heap.size + 1) w1.heap.size n [] rv (.slice none 0 0) (w1.alloc (.cells (pkV m n C (.slice none 0 0)) t)) := by
  have h3 := al_below w1 (.cells (pkV m n C (.slice none 0 0)) t)
  have hl := hM.lt
  exact ⟨(hM.below h1).below h3, hA.below h3, hR.below h3, ⟨t, World.alloc_heap_new w1 _⟩, OwnI.nil _ _, h1.trans (h3.mono h1.size), by simp, by omega, by omega, by omega, by omega, by omega, by omega, by omega, by omega, by omega, by omega, by omega, by omega⟩

set_option maxRecDepth 20000 in
set_option maxHeartbeats 4000000 in
theorem pick_any (m : Nat) (hm : isF m) (R C b cap : Nat) (hR : R ≤ 32) (hC : C ≤ 32) (hC0 : 0 < C) (hcap : R * C ≤ cap) (hcm : cap ≤ maxLen) (M : Mat) (hB : Bnd (2 ^ m) R C M) (us : List Nat) (h32 : us.length ≤ 32) (hu0 : 0 < us.length) (hur : ∀ u ∈ us, u < R) (rv : Value) (w : World) (hM : MatB w b R C M) (hrv : RowI w rv (intsV (natsI us))) :
    Calls Tryd.prog 33 #[.agg (matV m R C b cap), rv] w fun e w' => ∃ g cp, e = .returned (.tuple #[.agg (matV m us.length C g cp), .int .i64 0]) ∧ us.length * C ≤ cp ∧ cp ≤ maxLen ∧ w.heap.size ≤ g ∧ MatB w' g us.length C (fun i j => M ((us[i]?).getD 0) j) ∧ Below w.heap.size w w' := by
  have HV := Lib.hid (fun W (hb : Below w.heap.size w W) => mvalid_any m hm R C b cap hR hC hcap hcm M hB W (hM.below hb))
  have HRA := Lib.hid (fun i (hi : i < R) W => row_any m R C b cap i hi hR hC hC0 hcap W)
  have HRV := Lib.hid (fun W (hb : Below w.heap.size w W) => hrv.below hb)
  have HS := Lib.hid (fun t t' w1 h => tr_start w m R C b cap t t' w1 h)
  have HP := Lib.hid (fun w1 t hA hR h1 hs => pk_start w w1 m R C b cap us.length M rv t hM hA hR h1 hs)
  have h4 : us.length * C ≤ 32 * 32 := Nat.mul_le_mul h32 hC
  have HX := Lib.hid (And.intro hur (And.intro (Nat.mul_pos hu0 hC0) h4))
  obtain ⟨ao, cp, rfl, -, -, -⟩ := hrv
  rw [intsV_len, natsI_len] at *
  have hl32 : decide (32 < (us.length : Int)) = false := decide_eq_false (by omega)
  have hu32 : (us.length : Int) ≤ 32 := by omega
  clear hM hB hm hcap hcm hur hu0 h4
  unfold matV
  go_enter Tryd.func33, Tryd.ntmps33
  go_wp2_with (go_at_call 49; refine (HV.out _ ((al_below w _).trans ((al_below _ _).mono (by simp)))).mono ?_; rintro e w1 ⟨rfl, h1⟩; obtain ⟨hA, hZ, hb1, hs1⟩ := HS.out _ _ w1 h1; obtain ⟨a0, a1, a2, -⟩ := hA.mat; clear h1)
  have HF := Lib.hid (HP.out w1 TM hA hZ hb1 hs1)
  clear hA hZ hb1 hs1 a0 a1 a2 HV HS HP
  unfold pkV at HF
  generalize hgP : w1.heap.size = gP at *
  obtain ⟨base, hbase⟩ : ∃ base, gP + 1 = base := ⟨_, rfl⟩
  rw [hbase] at HF
  clear hgP hbase
  go_loopw [27] (fun k wr => PkO w b R C m cap M base w.heap.size (w.heap.size + 1) gP us.length us (.slice ao us.length cp) k wr) (fun k _ => us.length - (intOf k).toNat)
  case atStart => exact ⟨⟨0, _, Nat.zero_le _, rfl, HF.out⟩⟩
  case round =>
    clear HF
    obtain ⟨i, v, hi, rfl, hF⟩ := hrel.st
    clear hrel
    by_cases hlt : i < us.length
    · have hltd : decide ((i : Int) < (us.length : Int)) = true := decide_eq_true (by omega)
      have hwi : IntKind.i64.wrap ((i : Int) + 1) = (i : Int) + 1 := IntWalk.i64_in _ (by omega)
      obtain ⟨u, hu⟩ : ∃ u, us[i]? = some u := ⟨_, List.getElem?_eq_getElem hlt⟩
      have huR : u < R := HX.out.1 u (List.mem_of_getElem? hu)
      have hu0 : decide ((u : Int) < 0) = false := decide_eq_false (by omega)
      have hu1 : decide (R ≤ u) = false := decide_eq_false (by omega)
      obtain ⟨ao', cp', hv', hc1, hc2, hrow⟩ := HRV.out wr hF.bl
      have hv2 : ao' = ao := by
        have := hv'
        simp only [Value.slice.injEq] at this
        exact this.1.symm
      subst hv2
      obtain ⟨q, off, rfl, hq, hcell⟩ := hrow (by rw [intsV_len, natsI_len]; omega)
      have e0 := hcell i (.int .i64 (u : Int)) (intsV_at (by unfold natsI; rw [List.getElem?_map, hu]; rfl))
      obtain ⟨a0, a1, a2, a3⟩ := hF.bA.mat
      have htk : us.take (i + 1) = us.take i ++ [u] := by rw [List.take_add_one, hu]; rfl
      have HF := Lib.hid hF
      have hlen := rowsL_len C M (us.take i)
      have HL := Lib.hid (show (rowsL C M (us.take i)).length + (rowL C M u).length ≤ 100000 by
        rw [hlen, rowL_len, List.length_take]
        have h1 : min i us.length * C ≤ us.length * C := Nat.mul_le_mul_right C (by omega)
        have := HX.out.2.2
        omega)
      have HTK := Lib.hid htk
      clear hF hv' hc1 hc2 hrow hcell hlen htk hu
      go_wp2
      refine regU_begin (fun w' => PkF w b R C m cap M base w.heap.size (w.heap.size + 1) gP us.length (us.take i) (.slice (some ⟨q, off, none⟩) us.length cp) v w') (by kernel_rfl) HF.out.drew ?_
      (apply regU_take 0 rfl rfl (by decide +kernel) rfl); (intro w' hw'; go_simp; rfl); simp only [List.setIfInBounds_toArray, List.set_cons_succ, List.set_cons_zero]
      refine regU_take 1 (v := v) rfl rfl (by decide +kernel) rfl (fun w' h => exec_load_cell rfl rfl Tryd.underlying26 rfl h.pk.2.2.2) ?_; simp only [List.setIfInBounds_toArray, List.set_cons_succ, List.set_cons_zero]
      refine regU_take 2 (v := .agg (matV m R C b cap)) rfl rfl (by decide +kernel) rfl (fun w' h => exec_ldM rfl rfl h.bA) ?_; simp only [List.setIfInBounds_toArray, List.set_cons_succ, List.set_cons_zero]
      (apply regU_take 3 rfl rfl (by decide +kernel) rfl); (intro w' hw'; go_simp; rfl); simp only [List.setIfInBounds_toArray, List.set_cons_succ, List.set_cons_zero]
      refine regU_call 4 (f := 50) (args := #[.agg (matV m R C b cap), .int .i64 (u : Int)]) (v := .slice (some ⟨b, u * C, none⟩) C (cap - u * C)) rfl rfl (by decide +kernel) rfl (fun w' => by kernel_rfl) (fun w' h => (HRA.out u huR w').mono fun e w'' h' => ⟨h'.1, h.below h'.2⟩) ?_
      simp only [List.setIfInBounds_toArray, List.set_cons_succ, List.set_cons_zero]
      refine regU_alone (S' := fun _ => True) 5 (by decide +kernel) ?_
      intro w3 h3
      obtain ⟨v', w4, hr, h4, h5⟩ := run_apL h3.own b (u * C) (cap - u * C) (rowL C M u) (by
        intro j x hx
        have hj : j < C := by
          rcases Nat.lt_or_ge j C with h | h
          · exact h
          · rw [List.getElem?_eq_none (by rw [rowL_len]; exact h)] at hx; cases hx
        rw [rowL_at hj] at hx
        cases hx
        exact h3.bM.cell huR hj) HL.out h3.sz
      rw [rowL_len] at hr
      refine reg_run 5 (v') (w4) rfl rfl (by decide +kernel) rfl (exec_appJ rfl rfl rfl rfl hr) (trivial) ?_; simp only [List.setIfInBounds_toArray, List.set_cons_succ, List.set_cons_zero]
      have HF9 := Lib.hid (h3.next h4 h5)
      obtain ⟨tP, hP⟩ := h3.bP
      have hP4 : Box w4 gP (pkV m us.length C v) := ⟨tP, (h5.block gP h3.ne.2.2.2.1).trans hP⟩
      (apply reg_take 6 rfl rfl (by decide +kernel) rfl); (intro w' hw'; go_simp; rfl); exact trivial; simp only [List.setIfInBounds_toArray, List.set_cons_succ, List.set_cons_zero]
      refine reg_do_last 7 (w4.setCell ⟨gP, 3, none⟩ v') rfl rfl (by decide +kernel) rfl (exec_stS rfl rfl rfl h4 (hP4.cell 3) (hP4.free 3)) ?_
      rw [← HTK.out] at HF9
      generalize w4.setCell ⟨gP, 3, none⟩ v' = w5 at *
      clear h3 h4 h5 hr hP hP4 a0 a1 a2 a3 e0
      go_wp2
      go_roundw
      case rel => exact ⟨⟨i + 1, v', hlt, rfl, HF9.out⟩⟩
      case measure => simp only [intOf]; omega
    · have hie : i = us.length := by omega
      have hltd : decide ((i : Int) < (us.length : Int)) = false := decide_eq_false (by omega)
      have hF2 : PkF w b R C m cap M base w.heap.size (w.heap.size + 1) gP us.length us (.slice ao us.length cp) v wr := by
        have h := hF
        rw [hie, List.take_length] at h; exact h
      obtain ⟨g, cg, rfl, hg1, hg2, hg3, hg4⟩ := hF2.mat HX.out.2.1
      obtain ⟨d0, d1, d2, d3⟩ := hF2.pk
      obtain ⟨r0, r1, r2, r3, z0, z1, z2, z3⟩ := hF2.bR.zmat
      have HF := Lib.hid hF2
      have HG := Lib.hid (And.intro hg1 (And.intro hg2 (And.intro hg3 hg4)))
      clear hF hF2 hg1 hg2 hg3 hg4 hie
      go_wp2
      obtain ⟨tz, hz⟩ := HF.out.bR
      have h4 := set4 (.int .i64 (m : Int)) (.int .i64 (us.length : Int)) (.int .i64 (C : Int)) (.slice (some ⟨g, 0, none⟩) (us.length * C) cg) hz
      have hb4 := set4_but (w := wr) (g := w.heap.size + 1) (.int .i64 (m : Int)) (.int .i64 (us.length : Int)) (.int .i64 (C : Int)) (.slice (some ⟨g, 0, none⟩) (us.length * C) cg)
      refine bodyPost_ret (v := .tuple #[.agg (matV m us.length C g cg), .int .i64 0]) (resultsJ Tryd.results33 (ResJ.row rfl h4 Tryd.underlying61 rfl info_mat) (.tmp rfl)) rfl ?_
      obtain ⟨n1, n2, n3, n4, n5, n6, n7, n8, n9, n10, n11, n12⟩ := HF.out.ne
      obtain ⟨hg1, hg2, hg3, hg4⟩ := HG.out
      exact ⟨g, cg, rfl, hg1, hg2, Nat.le_trans n5 hg3, hg4.but hb4 (by omega), HF.out.bl.trans (hb4.below n7 HF.out.bl.size)⟩
end Go.Proofs.YtnilepaicnnbhaaDoor
