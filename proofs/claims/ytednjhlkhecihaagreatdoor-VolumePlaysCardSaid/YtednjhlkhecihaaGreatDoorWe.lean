/- solventlaw27.refs, maps: two rows of pairs are equal. Printed by ve.py. -/
import Derived.Test.YtednjhlkhecihaaGreatDoorWa
import Derived.BigQuiet
namespace Go.Proofs.YtednjhlkhecihaaGreatDoor
open Go.RowKit Go.Vol Go.Sl

structure EqSt (w : World) (A B : List (Nat × Int)) (i : Value) (wr : World) : Prop where
  st : ∃ k : Nat, k ≤ A.length ∧ i = .int .i64 k ∧ A.take k = B.take k ∧ Below w.heap.size w wr
theorem ref_cells {w : World} {ao : Option Addr} {n cap : Nat} {l : List (Nat × Int)} {i : Nat} {x : Nat × Int} (h : RowsAt w (.slice ao n cap) l.length (l.flatMap refE)) (hx : l[i]? = some x) : ∃ b : Nat, ao = some ⟨b, 0, none⟩ ∧ b < w.heap.size ∧
    w.cell? ⟨b, i * 2, none⟩ = some (.int .i64 (x.1 : Int)) ∧ w.cell? ⟨b, i * 2 + 1, none⟩ = some (.int .i64 x.2) := by
  obtain ⟨ao', cap', e, _, _, h4⟩ := h
  obtain ⟨b, hb, hlt, hc⟩ := h4 (by have := (List.getElem?_eq_some_iff.1 hx).1; omega)
  simp only [Value.slice.injEq] at e
  refine ⟨b, e.1.trans hb, hlt, ?_, ?_⟩
  · have := hc _ _ (flat_at refE_len l i x hx 0 _ rfl); rwa [Nat.add_zero] at this
  · exact hc _ _ (flat_at refE_len l i x hx 1 _ rfl)

set_option maxRecDepth 20000 in
set_option maxHeartbeats 1000000 in
theorem refs_any (va vb : Value) (A B : List (Nat × Int)) (w : World) (ha : RowsAt w va A.length (A.flatMap refE)) (hb : RowsAt w vb B.length (B.flatMap refE)) :
    Calls Tryz.prog 16 #[va, vb] w fun e w' => e = .returned (.bool (decide (A = B))) ∧ Below w.heap.size w w' := by
  obtain ⟨aa, ca, rfl, _, hma, _⟩ := id ha
  obtain ⟨ab, cb, rfl, _, hmb, _⟩ := id hb
  unfold maxLen at hma hmb
  have HA := Lib.hid (And.intro ha hb)
  by_cases hl : A.length = B.length
  · have hq : ((A.length : Int) != (B.length : Int)) = false := by simp; omega
    have hA0 : A.length ≤ 9223372036854775807 := by obtain ⟨_, _, e, ⟨h, _⟩, _⟩ := ha; simp only [Value.slice.injEq] at e; omega
    have HL := Lib.hid hl
    clear ha hb hma hmb
    go_enter Tryz.func16, Tryz.ntmps16
    go_wp2
    go_loopw [5] (fun i wr => EqSt w A B i wr) (fun i _ => A.length - (intOf i).toNat)
    case atStart => exact ⟨⟨0, Nat.zero_le _, rfl, rfl, Below.refl _ _⟩⟩
    case round =>
      obtain ⟨k, hk, rfl, htk, hbw⟩ := hrel.st
      clear hrel
      have HT := Lib.hid (And.intro htk hbw)
      by_cases hlt : k < A.length
      · have hltd : decide ((k : Int) < (A.length : Int)) = true := decide_eq_true (by omega)
        have hlt2 : k < B.length := by omega
        have hki : (k : Int) ≤ 9223372036854775806 := by omega
        obtain ⟨x, hx⟩ : ∃ x, A[k]? = some x := ⟨_, List.getElem?_eq_getElem hlt⟩
        obtain ⟨y, hy⟩ : ∃ y, B[k]? = some y := ⟨_, List.getElem?_eq_getElem hlt2⟩
        obtain ⟨g, rfl, hg, c0, c1⟩ := ref_cells HA.out.1 hx
        obtain ⟨g2, rfl, hg2, e0, e1⟩ := ref_cells HA.out.2 hy
        have c0 := (hbw.cell (p := ⟨g, k * 2, none⟩) hg).trans c0
        have c1 := (hbw.cell (p := ⟨g, k * 2 + 1, none⟩) hg).trans c1
        have e0 := (hbw.cell (p := ⟨g2, k * 2, none⟩) hg2).trans e0
        have e1 := (hbw.cell (p := ⟨g2, k * 2 + 1, none⟩) hg2).trans e1
        obtain ⟨x0, x1⟩ := x
        obtain ⟨y0, y1⟩ := y
        simp only at c0 c1 e0 e1
        have HX := Lib.hid (And.intro hx hy)
        have hz0 : ((x0 : Int) == (y0 : Int)) = decide (x0 = y0) := by
          by_cases h : x0 = y0
          · simp [h]
          · rw [decide_eq_false h]; simp; omega
        have hz1 : (x1 == y1) = decide (x1 = y1) := rfl
        clear hx hy htk hbw hg hg2
        by_cases h0 : x0 = y0
        · rw [decide_eq_true h0] at hz0
          by_cases h1 : x1 = y1
          · rw [decide_eq_true h1] at hz1
            have HE := Lib.hid (And.intro h0 h1)
            clear h0 h1
            go_upto_region 6 with (fail)
            go_quiet (fail)
            go_wp2
            refine ⟨⟨⟨k + 1, by omega, rfl, ?_, HT.out.2.drewN _⟩⟩, by simp only [intOf]; omega⟩
            rw [List.take_add_one, List.take_add_one, HT.out.1, HX.out.1, HX.out.2, HE.out.1, HE.out.2]
          · rw [decide_eq_false h1] at hz1
            have HE := Lib.hid h1
            clear h0 h1
            go_upto_region 6 with (fail)
            go_quiet (fail)
            go_wp2
            go_ret
            rw [show decide (A = B) = false from decide_eq_false (by rintro rfl; have h2 := HX.out.1; rw [HX.out.2] at h2; injection h2 with h2; injection h2 with h3 h4; exact HE.out h4.symm)]
            exact ⟨rfl, HT.out.2.drewN _⟩
        · rw [decide_eq_false h0] at hz0
          have HE := Lib.hid h0
          clear h0
          go_upto_region 6 with (fail)
          go_quiet (fail)
          go_wp2
          go_ret
          rw [show decide (A = B) = false from decide_eq_false (by rintro rfl; have h2 := HX.out.1; rw [HX.out.2] at h2; injection h2 with h2; injection h2 with h3 h4; exact HE.out h3.symm)]
          exact ⟨rfl, HT.out.2.drewN _⟩
      · have hke : k = A.length := by omega
        have hltd : decide ((k : Int) < (A.length : Int)) = false := decide_eq_false (by omega)
        clear htk hbw
        go_wp2
        go_ret
        have hd : decide (A = B) = true := decide_eq_true (by have := HT.out.1; rwa [hke, List.take_length, HL.out, List.take_length] at this)
        rw [hd]
        exact ⟨rfl, HT.out.2⟩
  · have hq : ((A.length : Int) != (B.length : Int)) = true := by simp; omega
    have hd : decide (A = B) = false := decide_eq_false (by rintro rfl; exact hl rfl)
    rw [hd]
    clear hl hd ha hb
    go_enter Tryz.func16, Tryz.ntmps16
    go_wp2
    go_ret
    exact ⟨rfl, Below.refl _ _⟩

set_option maxRecDepth 20000 in
set_option maxHeartbeats 1000000 in
theorem maps_any (va vb : Value) (A B : List (Nat × Int)) (w : World) (ha : RowsAt w va A.length (A.flatMap refE)) (hb : RowsAt w vb B.length (B.flatMap refE)) :
    Calls Tryz.prog 43 #[va, vb] w fun e w' => e = .returned (.bool (decide (A = B))) ∧ Below w.heap.size w w' := by
  obtain ⟨aa, ca, rfl, _, hma, _⟩ := id ha
  obtain ⟨ab, cb, rfl, _, hmb, _⟩ := id hb
  unfold maxLen at hma hmb
  have HA := Lib.hid (And.intro ha hb)
  by_cases hl : A.length = B.length
  · have hq : ((A.length : Int) != (B.length : Int)) = false := by simp; omega
    have hA0 : A.length ≤ 9223372036854775807 := by obtain ⟨_, _, e, ⟨h, _⟩, _⟩ := ha; simp only [Value.slice.injEq] at e; omega
    have HL := Lib.hid hl
    clear ha hb hma hmb
    go_enter Tryz.func43, Tryz.ntmps43
    go_wp2
    go_loopw [5] (fun i wr => EqSt w A B i wr) (fun i _ => A.length - (intOf i).toNat)
    case atStart => exact ⟨⟨0, Nat.zero_le _, rfl, rfl, Below.refl _ _⟩⟩
    case round =>
      obtain ⟨k, hk, rfl, htk, hbw⟩ := hrel.st
      clear hrel
      have HT := Lib.hid (And.intro htk hbw)
      by_cases hlt : k < A.length
      · have hltd : decide ((k : Int) < (A.length : Int)) = true := decide_eq_true (by omega)
        have hlt2 : k < B.length := by omega
        have hki : (k : Int) ≤ 9223372036854775806 := by omega
        obtain ⟨x, hx⟩ : ∃ x, A[k]? = some x := ⟨_, List.getElem?_eq_getElem hlt⟩
        obtain ⟨y, hy⟩ : ∃ y, B[k]? = some y := ⟨_, List.getElem?_eq_getElem hlt2⟩
        obtain ⟨g, rfl, hg, c0, c1⟩ := ref_cells HA.out.1 hx
        obtain ⟨g2, rfl, hg2, e0, e1⟩ := ref_cells HA.out.2 hy
        have c0 := (hbw.cell (p := ⟨g, k * 2, none⟩) hg).trans c0
        have c1 := (hbw.cell (p := ⟨g, k * 2 + 1, none⟩) hg).trans c1
        have e0 := (hbw.cell (p := ⟨g2, k * 2, none⟩) hg2).trans e0
        have e1 := (hbw.cell (p := ⟨g2, k * 2 + 1, none⟩) hg2).trans e1
        obtain ⟨x0, x1⟩ := x
        obtain ⟨y0, y1⟩ := y
        simp only at c0 c1 e0 e1
        have HX := Lib.hid (And.intro hx hy)
        have hz0 : ((x0 : Int) == (y0 : Int)) = decide (x0 = y0) := by
          by_cases h : x0 = y0
          · simp [h]
          · rw [decide_eq_false h]; simp; omega
        have hz1 : (x1 == y1) = decide (x1 = y1) := rfl
        clear hx hy htk hbw hg hg2
        by_cases h0 : x0 = y0
        · rw [decide_eq_true h0] at hz0
          by_cases h1 : x1 = y1
          · rw [decide_eq_true h1] at hz1
            have HE := Lib.hid (And.intro h0 h1)
            clear h0 h1
            go_upto_region 6 with (fail)
            go_quiet (fail)
            go_wp2
            refine ⟨⟨⟨k + 1, by omega, rfl, ?_, HT.out.2.drewN _⟩⟩, by simp only [intOf]; omega⟩
            rw [List.take_add_one, List.take_add_one, HT.out.1, HX.out.1, HX.out.2, HE.out.1, HE.out.2]
          · rw [decide_eq_false h1] at hz1
            have HE := Lib.hid h1
            clear h0 h1
            go_upto_region 6 with (fail)
            go_quiet (fail)
            go_wp2
            go_ret
            rw [show decide (A = B) = false from decide_eq_false (by rintro rfl; have h2 := HX.out.1; rw [HX.out.2] at h2; injection h2 with h2; injection h2 with h3 h4; exact HE.out h4.symm)]
            exact ⟨rfl, HT.out.2.drewN _⟩
        · rw [decide_eq_false h0] at hz0
          have HE := Lib.hid h0
          clear h0
          go_upto_region 6 with (fail)
          go_quiet (fail)
          go_wp2
          go_ret
          rw [show decide (A = B) = false from decide_eq_false (by rintro rfl; have h2 := HX.out.1; rw [HX.out.2] at h2; injection h2 with h2; injection h2 with h3 h4; exact HE.out h3.symm)]
          exact ⟨rfl, HT.out.2.drewN _⟩
      · have hke : k = A.length := by omega
        have hltd : decide ((k : Int) < (A.length : Int)) = false := decide_eq_false (by omega)
        clear htk hbw
        go_wp2
        go_ret
        have hd : decide (A = B) = true := decide_eq_true (by have := HT.out.1; rwa [hke, List.take_length, HL.out, List.take_length] at this)
        rw [hd]
        exact ⟨rfl, HT.out.2⟩
  · have hq : ((A.length : Int) != (B.length : Int)) = true := by simp; omega
    have hd : decide (A = B) = false := decide_eq_false (by rintro rfl; exact hl rfl)
    rw [hd]
    clear hl hd ha hb
    go_enter Tryz.func43, Tryz.ntmps43
    go_wp2
    go_ret
    exact ⟨rfl, Below.refl _ _⟩
end Go.Proofs.YtednjhlkhecihaaGreatDoor
