/- package matrix: Transpose. -/
import Derived.Test.YtnilepaicnnbhaaDoorJi
namespace Go.GF
open Go Go.RowKit
/-- A struct in a block of its own. -/
def Box (w : World) (g : Nat) (c : Array Value) : Prop := ∃ t, w.heap[g]? = some (.cells c t (0, 0))
theorem Box.lt {w : World} {g : Nat} {c : Array Value} (h : Box w g c) : g < w.heap.size := by
  obtain ⟨t, h1⟩ := h
  rcases Nat.lt_or_ge g w.heap.size with h | h
  · exact h
  · rw [Array.getElem?_eq_none h] at h1; cases h1
theorem Box.keep {w w' : World} {g : Nat} {c : Array Value} (h : Box w g c) (hk : w'.heap[g]? = w.heap[g]?) : Box w' g c := by
  obtain ⟨t, h1⟩ := h
  exact ⟨t, hk.trans h1⟩
theorem Box.below {w w' : World} {g : Nat} {c : Array Value} (h : Box w g c) (hb : Below w.heap.size w w') : Box w' g c := h.keep (hb.block g h.lt)
theorem Box.but {w w' : World} {g b : Nat} {c : Array Value} (h : Box w g c) (hb : But b w w') (hne : g ≠ b) : Box w' g c := h.keep (hb.block g h.lt hne)
theorem Box.cell {w : World} {g : Nat} {c : Array Value} (h : Box w g c) (i : Nat) : w.cell? ⟨g, i, none⟩ = c[i]? := by
  obtain ⟨t, h1⟩ := h
  unfold World.cell?
  simp [h1]
theorem Box.free {w : World} {g : Nat} {c : Array Value} (h : Box w g c) (i : Nat) : w.frozen? ⟨g, i, none⟩ = false := by
  obtain ⟨t, h1⟩ := h
  unfold World.frozen?
  simp [h1]
theorem Box.mat {w : World} {g m R C b cap : Nat} (h : Box w g (matV m R C b cap)) : w.cell? ⟨g, 0, none⟩ = some (.int .i64 (m : Int)) ∧ w.cell? ⟨g, 1, none⟩ = some (.int .i64 (R : Int)) ∧ w.cell? ⟨g, 2, none⟩ = some (.int .i64 (C : Int)) ∧ w.cell? ⟨g, 3, none⟩ = some (.slice (some ⟨b, 0, none⟩) (R * C) cap) :=
  ⟨h.cell 0, h.cell 1, h.cell 2, h.cell 3⟩
def zmatV : Array Value := #[.int .i64 0, .int .i64 0, .int .i64 0, .slice none 0 0]
theorem Box.zmat {w : World} {g : Nat} (h : Box w g zmatV) : w.cell? ⟨g, 0, none⟩ = some (.int .i64 0) ∧ w.cell? ⟨g, 1, none⟩ = some (.int .i64 0) ∧ w.cell? ⟨g, 2, none⟩ = some (.int .i64 0) ∧ w.cell? ⟨g, 3, none⟩ = some (.slice none 0 0) ∧ w.frozen? ⟨g, 0, none⟩ = false ∧ w.frozen? ⟨g, 1, none⟩ = false ∧ w.frozen? ⟨g, 2, none⟩ = false ∧ w.frozen? ⟨g, 3, none⟩ = false :=
  ⟨h.cell 0, h.cell 1, h.cell 2, h.cell 3, h.free 0, h.free 1, h.free 2, h.free 3⟩
/-- A matrix of which so much is transposed. -/
def trN (M : Mat) (i j : Nat) : Mat := fun x y => if y < i ∨ (y = i ∧ x < j) then M y x else 0
theorem trN_zero (M : Mat) : trN M 0 0 = fun _ _ => 0 := by funext x y; unfold trN; rw [if_neg (by omega)]
theorem trN_set (M : Mat) (i j : Nat) : setM (trN M i j) j i (M i j) = trN M i (j + 1) := by
  funext x y
  unfold setM trN
  by_cases h : x = j ∧ y = i
  · obtain ⟨rfl, rfl⟩ := h
    rw [if_pos ⟨rfl, rfl⟩, if_pos (by omega)]
  · rw [if_neg h]
    by_cases h1 : y < i ∨ (y = i ∧ x < j)
    · rw [if_pos h1, if_pos (by omega)]
    · rw [if_neg h1, if_neg (by omega)]
theorem trN_row (M : Mat) (i C : Nat) : ∀ x, x < C → ∀ y, trN M i C x y = trN M (i + 1) 0 x y := by
  intro x hx y
  unfold trN
  by_cases h1 : y < i + 1
  · rw [if_pos (by omega), if_pos (by omega)]
  · rw [if_neg (by omega), if_neg (by omega)]
theorem trN_all (M : Mat) (R C : Nat) : ∀ x, x < C → ∀ y, y < R → trN M R 0 x y = M y x := by
  intro x _ y hy
  unfold trN; rw [if_pos (by omega)]

structure TrF (w0 : World) (b R C m cap : Nat) (M : Mat) (gA gR gB b' : Nat) (N : Mat) (wr : World) : Prop where
  bM : MatB wr b R C M
  bN : MatB wr b' C R N
  bA : Box wr gA (matV m R C b cap)
  bR : Box wr gR zmatV
  bB : Box wr gB (matV m C R b' (C * R))
  bl : Below w0.heap.size w0 wr
  lo : w0.heap.size ≤ b' ∧ w0.heap.size ≤ gR
  ne : b ≠ b' ∧ gA ≠ b' ∧ gR ≠ b' ∧ gB ≠ b' ∧ b ≠ gR ∧ gA ≠ gR ∧ gB ≠ gR
variable {w0 : World} {b R C m cap : Nat} {M : Mat} {gA gR gB b' : Nat} {N : Mat} {wr wr' : World}
theorem TrF.below (h : TrF w0 b R C m cap M gA gR gB b' N wr) (hb : Below wr.heap.size wr wr') : TrF w0 b R C m cap M gA gR gB b' N wr' :=
  ⟨h.bM.below hb, h.bN.below hb, h.bA.below hb, h.bR.below hb, h.bB.below hb, h.bl.trans (hb.mono h.bl.size), h.lo, h.ne⟩
theorem TrF.set (h : TrF w0 b R C m cap M gA gR gB b' N wr) {x y : Nat} (hy : y < R) (v : Nat) : TrF w0 b R C m cap M gA gR gB b' (setM N x y v) (wr.setCell ⟨b', x * R + y, none⟩ (.int .i64 (v : Int))) :=
  have hb := But.set b' (x * R + y) wr (.int .i64 (v : Int))
  ⟨h.bM.but hb h.ne.1, h.bN.set hy v, h.bA.but hb h.ne.2.1, h.bR.but hb h.ne.2.2.1, h.bB.but hb h.ne.2.2.2.1, h.bl.trans (hb.below h.lo.1 h.bl.size), h.lo, h.ne⟩
theorem TrF.congr {N' : Mat} (h : TrF w0 b R C m cap M gA gR gB b' N wr) (he : ∀ i, i < C → ∀ j, j < R → N i j = N' i j) : TrF w0 b R C m cap M gA gR gB b' N' wr :=
  ⟨h.bM, h.bN.congr he, h.bA, h.bR, h.bB, h.bl, h.lo, h.ne⟩
structure TrO (w0 : World) (b R C m cap : Nat) (M : Mat) (gA gR gB b' : Nat) (k : Value) (wr : World) : Prop where
  st : ∃ n : Nat, n ≤ R ∧ k = .int .i64 (n : Int) ∧ TrF w0 b R C m cap M gA gR gB b' (trN M n 0) wr
structure TrI (w0 : World) (b R C m cap : Nat) (M : Mat) (gA gR gB b' i : Nat) (k : Value) (wr : World) : Prop where
  st : ∃ n : Nat, n ≤ C ∧ k = .int .i64 (n : Int) ∧ TrF w0 b R C m cap M gA gR gB b' (trN M i n) wr
end Go.GF
namespace Go.Proofs.YtnilepaicnnbhaaDoor
open Go.RowKit Go.GF Go.Sl

theorem tr_start (w : World) (m R C b cap : Nat) (t t' : TypeId) (w1 : World) (h1 : Below ((w.alloc (.cells (matV m R C b cap) t)).alloc (.cells zmatV t')).heap.size ((w.alloc (.cells (matV m R C b cap) t)).alloc (.cells zmatV t')) w1) :
    Box w1 w.heap.size (matV m R C b cap) ∧ Box w1 (w.heap.size + 1) zmatV ∧ Below w.heap.size w w1 ∧ w.heap.size + 2 ≤ w1.heap.size := by
  have hA : Box ((w.alloc (.cells (matV m R C b cap) t)).alloc (.cells zmatV t')) w.heap.size (matV m R C b cap) := ⟨t, al2_a _ _ _⟩
  have hZ : Box ((w.alloc (.cells (matV m R C b cap) t)).alloc (.cells zmatV t')) (w.heap.size + 1) zmatV := ⟨t', al2_b _ _ _⟩
  have hs : ((w.alloc (.cells (matV m R C b cap) t)).alloc (.cells zmatV t')).heap.size = w.heap.size + 2 := by simp
  refine ⟨hA.below h1, hZ.below h1, ?_, by have := h1.size; omega⟩
  exact ((al_below w _).trans ((al_below _ _).mono (by simp))).trans (h1.mono (by simp; omega))
theorem tr_zero (w w1 w2 : World) (m R C b cap b' : Nat) (M : Mat) (t : TypeId) (hM : MatB w b R C M) (hA : Box w1 w.heap.size (matV m R C b cap)) (hR : Box w1 (w.heap.size + 1) zmatV) (h1 : Below w.heap.size w w1) (hs : w.heap.size + 2 ≤ w1.heap.size)
    (hlo : w1.heap.size ≤ b') (hz : MatB w2 b' C R (fun _ _ => 0)) (h2 : Below w1.heap.size w1 w2) :
    TrF w b R C m cap M w.heap.size (w.heap.size + 1) w2.heap.size b' (trN M 0 0) (w2.alloc (.cells (matV m C R b' (C * R)) t)) := by
  have h3 := al_below w2 (.cells (matV m C R b' (C * R)) t)
  have hbl := hM.lt
  have hbz := hz.lt
  have h4 := h2.size
  rw [trN_zero]
  exact ⟨((hM.below h1).below h2).below h3, hz.below h3, (hA.below h2).below h3, (hR.below h2).below h3, ⟨t, World.alloc_heap_new w2 _⟩, (h1.trans (h2.mono h1.size)).trans (h3.mono (by have := h1.size; omega)), ⟨by omega, by omega⟩, by omega, by omega, by omega, by omega, by omega, by omega, by omega⟩

set_option maxRecDepth 20000 in
set_option maxHeartbeats 4000000 in
theorem transpose_any (m : Nat) (hm : isF m) (R C b cap : Nat) (hR : R ≤ 32) (hC : C ≤ 32) (hR0 : 0 < R) (hC0 : 0 < C) (hcap : R * C ≤ cap) (hcm : cap ≤ maxLen) (M : Mat) (hB : Bnd (2 ^ m) R C M) (w : World) (hM : MatB w b R C M) :
    Calls Tryd.prog 51 #[.agg (matV m R C b cap)] w fun e w' => ∃ b', e = .returned (.tuple #[.agg (matV m C R b' (C * R)), .int .i64 0]) ∧ w.heap.size ≤ b' ∧ MatB w' b' C R (fun i j => M j i) ∧ Below w.heap.size w w' := by
  have HV := Lib.hid (fun W (hb : Below w.heap.size w W) => mvalid_any m hm R C b cap hR hC hcap hcm M hB W (hM.below hb))
  have HZ := fun W => zero_any m C R hC hR W
  unfold matV at HZ
  replace HZ := Lib.hid HZ
  have HRA := Lib.hid (fun i (hi : i < R) W => row_any m R C b cap i hi hR hC hC0 hcap W)
  have HRB := Lib.hid (fun b' i (hi : i < C) W => row_any m C R b' (C * R) i hi hC hR hR0 (Nat.le_refl _) W)
  have HM := Lib.hid hM
  have hR32 : (R : Int) ≤ 32 := by omega
  have hC32 : (C : Int) ≤ 32 := by omega
  have HS := Lib.hid (fun t t' w1 h => tr_start w m R C b cap t t' w1 h)
  have HT := Lib.hid (fun w1 w2 b' t => tr_zero w w1 w2 m R C b cap b' M t hM)
  clear hM hB hm hcap hcm
  unfold matV
  go_enter Tryd.func51, Tryd.ntmps51
  go_wp2_with first
    | (go_at_call 49; refine (HV.out _ ((al_below w _).trans ((al_below _ _).mono (by simp)))).mono ?_; rintro e w1 ⟨rfl, h1⟩; obtain ⟨hA, hZ, hb1, hs1⟩ := HS.out _ _ w1 h1; obtain ⟨a0, a1, a2, -⟩ := hA.mat; clear h1)
    | (go_at_call 69; refine (HZ.out w1).mono ?_; rintro e w2 ⟨b', rfl, hlo, hz, h2⟩; obtain ⟨c0, c1, c2, -⟩ := (hA.below h2).mat; have hl2 := (hA.below h2).lt)
  have HF := Lib.hid (HT.out w1 w2 b' TM hA hZ hb1 hs1 hlo hz h2)
  clear hlo hz h2 hA hZ hb1 hs1 a0 a1 a2 c0 c1 c2 hl2 HV HZ HS HT HM
  generalize w2.heap.size = gB at *
  go_loopw [21] (fun k wr => TrO w b R C m cap M w.heap.size (w.heap.size + 1) gB b' k wr) (fun k _ => R - (intOf k).toNat)
  case atStart => exact ⟨⟨0, Nat.zero_le _, rfl, HF.out⟩⟩
  case round =>
    clear HF
    obtain ⟨i, hi, rfl, hF⟩ := hrel.st
    clear hrel
    by_cases hlt : i < R
    · have hltd : decide ((i : Int) < (R : Int)) = true := decide_eq_true (by omega)
      obtain ⟨a0, a1, a2, a3⟩ := hF.bA.mat
      have HF := Lib.hid hF
      have hwi : IntKind.i64.wrap ((i : Int) + 1) = (i : Int) + 1 := IntWalk.i64_in _ (by omega)
      clear hF
      go_wp2_with (go_at_call 50; refine (HRA.out i hlt _).mono ?_; rintro e w3 ⟨rfl, h3⟩)
      clear a0 a1 a2 a3
      have HF3 := Lib.hid (HF.out.below h3)
      clear HF h3
      obtain ⟨wo, rfl⟩ : ∃ wo : World, wo = wr := ⟨_, rfl⟩
      go_loopw [28] (fun k wr => TrI w b R C m cap M w.heap.size (w.heap.size + 1) gB b' i k wr) (fun k _ => C - (intOf k).toNat)
      case atStart => exact ⟨⟨0, Nat.zero_le _, rfl, HF3.out⟩⟩
      case round =>
        clear HF3
        obtain ⟨j, hj, rfl, hF⟩ := hrel.st
        clear hrel
        by_cases hjt : j < C
        · have hjtd : decide ((j : Int) < (C : Int)) = true := decide_eq_true (by omega)
          have hwj : IntKind.i64.wrap ((j : Int) + 1) = (j : Int) + 1 := IntWalk.i64_in _ (by omega)
          obtain ⟨d0, d1, d2, d3⟩ := hF.bB.mat
          have e1 := hF.bM.cell hlt hjt
          have HF := Lib.hid hF
          clear hF
          go_wp2_with (go_at_call 50; refine (HRB.out b' j hjt _).mono ?_; rintro e w4 ⟨rfl, h4⟩; have HF4 := Lib.hid (HF.out.below h4); have e2 := HF4.out.bN.cell hjt hlt; have f2 := HF4.out.bN.free (j * R + i))
          have HF5 := Lib.hid (show TrF w b R C m cap M w.heap.size (w.heap.size + 1) gB b' (trN M i (j + 1)) (w4.setCell ⟨b', j * R + i, none⟩ (.int .i64 ((M i j : Nat) : Int))) by
            rw [← trN_set]; exact HF4.out.set hlt _)
          go_roundw
          case rel => exact ⟨⟨j + 1, hjt, rfl, HF5.out⟩⟩
          case measure => simp only [intOf]; omega
        · obtain rfl : j = C := by omega
          have hjtd : decide ((j : Int) < (j : Int)) = false := decide_eq_false (by omega)
          have HF := Lib.hid (hF.congr (N' := trN M (i + 1) 0) fun x hx y _ => trN_row M i j x hx y)
          clear hF
          go_wp2
          go_roundw
          case rel => exact ⟨⟨i + 1, hlt, rfl, HF.out⟩⟩
          case measure => simp only [intOf]; omega
    · obtain rfl : i = R := by omega
      have hltd : decide ((i : Int) < (i : Int)) = false := decide_eq_false (by omega)
      obtain ⟨d0, d1, d2, d3⟩ := hF.bB.mat
      obtain ⟨r0, r1, r2, r3, z0, z1, z2, z3⟩ := hF.bR.zmat
      have HF := Lib.hid hF
      clear hF
      go_wp2
      obtain ⟨tz, hz⟩ := HF.out.bR
      have h4 := set4 (.int .i64 (m : Int)) (.int .i64 (C : Int)) (.int .i64 (i : Int)) (.slice (some ⟨b', 0, none⟩) (C * i) (C * i)) hz
      have hb4 := set4_but (w := wr) (g := w.heap.size + 1) (.int .i64 (m : Int)) (.int .i64 (C : Int)) (.int .i64 (i : Int)) (.slice (some ⟨b', 0, none⟩) (C * i) (C * i))
      refine bodyPost_ret (v := .tuple #[.agg (matV m C i b' (C * i)), .int .i64 0]) (resultsJ Tryd.results51 (ResJ.row rfl h4 Tryd.underlying61 rfl info_mat) (.tmp rfl)) rfl ?_
      obtain ⟨n1, n2, n3, n4, n5, n6, n7⟩ := HF.out.ne
      exact ⟨b', rfl, HF.out.lo.1, (HF.out.bN.but hb4 (Ne.symm n3)).congr fun x hx y hy => trN_all M i C x hx y hy, HF.out.bl.trans (hb4.below HF.out.lo.2 HF.out.bl.size)⟩
end Go.Proofs.YtnilepaicnnbhaaDoor
