import Derived.Test.YteikbikopgabjaaGreatDoorH16
/- Part 43 of a proof; the last part says what is proved. -/
namespace Go.Proofs.YteikbikopgabjaaGreatDoor
open Go.RowKit Go.Vol Go.Sl
theorem addL_take {l : List (Int × Int)} {k : Nat} {x : Int × Int} (h : l[k]? = some x) : addL (l.take (k + 1)) = upd (addL (l.take k)) x.1.toNat (some x.2) := by
 unfold addL
 rw [List.take_add_one, h, Option.toList_some, List.map_append]
 exact addN_snoc _ _
structure VcStG (w : World) (most : Int) (l : List ElC) (v z i : Value) (wr : World) : Prop where
 st : ∃ (k : Nat) (n : Int) (lp : List ElM), k ≤ l.length ∧ i = .int .i64 (k : Int) ∧ z = .int .i64 n ∧ (validC most (-1) (l.map Prod.fst) ↔ validC most n ((l.map Prod.fst).drop k)) ∧ lp.map Prod.fst = (l.take k).map (fun x => toPart false x.1) ∧ VcOwn w v k lp wr
structure VpStG (W3 : World) (P : Nat) (ob : Option Nat) (a b : Int) (its : List (Int × Int)) (z i : Value) (wr : World) : Prop where
 st : ∃ (j : Nat) (n : Int) (r : Option Addr), j ≤ its.length ∧ i = .int .i64 (j : Int) ∧ z = .int .i64 n ∧ (validM (-1) its ↔ validM n (its.drop j)) ∧ Same W3 wr ∧ (∀ k, k ≠ P → k < W3.heap.size → wr.heap[k]? = W3.heap[k]?) ∧
  wr.heap[P]? = some (.cells #[.int .i64 a, .int .i64 b, .pointer r, .int .i64 (cnt (addL (its.take j)) : Int)] TPt (0, 0)) ∧ NodeOk TNode (fun k => k ≠ P ∧ ob ≠ some k) wr 2 (.pointer r) (addL (its.take j))
def VcOut (most : Int) (l : List ElC) (e : Ending) (w' : World) : Prop :=
 (validC most (-1) (l.map Prod.fst) ∧ ∃ v' lp, e = .returned (.tuple #[v', .bool true]) ∧ lp.map Prod.fst = (l.map fun x => toPart false x.1) ∧ RowsAt w' v' lp.length (lp.flatMap volE) ∧ ElsAt TNode w' lp) ∨
 (¬ validC most (-1) (l.map Prod.fst) ∧ e = .returned (.tuple #[.slice none 0 0, .bool false]))
set_option maxRecDepth 20000 in
set_option maxHeartbeats 8000000 in
theorem vcont_any (v : Value) (l : List ElC) (most : Int) (w : World) (hc : CntL w v l) (hn : l.length ≤ 20) (hmx : ∀ x ∈ l, x.1.maps.length ≤ 40) :
  Calls Tryz.prog 54 #[v, .int .i64 most] w fun e w' => Hid (Below w.heap.size w w' ∧ VcOut most l e w') := by
 obtain ⟨ao, cap, rfl, _⟩ := id hc.row
 have HV := Lib.hid (And.intro hc hmx)
 obtain ⟨ti, hti, hz0, hts, hz2⟩ := info_parts info_pt
 have HT := Lib.hid (And.intro hti (And.intro hz0 (And.intro hts hz2)))
 clear hc hmx hti hz0 hts hz2
 go_enter Tryz.func54, Tryz.ntmps54
 go_wp2
 go_loopw [6, 7, 16] (fun v z i wr => VcStG w most l v z i wr) (fun _ _ i _ => l.length - (intOf i).toNat)
 case atStart =>
  exact ⟨⟨0, -1, [], Nat.zero_le _, rfl, rfl, Iff.rfl, rfl, ⟨Below.refl _ _, ownAt_nil.2 ⟨_, rfl, fun _ _ h => by cases h⟩, fun g hg => by simp [Value.ownBlock] at hg, fun x hx => absurd hx (by simp)⟩⟩⟩
 case round =>
  obtain ⟨k, z, lp, hk, rfl, rfl, hz, hlp, hown⟩ := hrel.st
  clear hrel
  obtain ⟨ra, rc, rfl⟩ := ownAt_slice hown.own
  have HO := Lib.hid (And.intro hown hlp)
  have hbw := hown.bl
  clear hown hlp
  by_cases hlt : k < l.length
  ·have hltd : decide ((k : Int) < (l.length : Int)) = true := decide_eq_true (by omega)
   have hki : (k : Int) ≤ 1000 := by omega
   obtain ⟨x, hx⟩ : ∃ x, l[k]? = some x := ⟨_, List.getElem?_eq_getElem hlt⟩
   have hxl : (l.map Prod.fst)[k]? = some x.1 := by rw [List.getElem?_map, hx]; rfl
   have hrow := HV.out.1.maps x (List.mem_of_getElem? hx)
   have hcp := HV.out.2 x (List.mem_of_getElem? hx)
   obtain ⟨xa, xc, hxs, _⟩ := id hrow
   obtain ⟨g, off, rfl, hg, e0, e1, e2, e3⟩ := c_cells HV.out.1.row hx
   have e0 := (hbw.cell (p := ⟨g, off + k * 4, none⟩) hg).trans e0
   have e1 := (hbw.cell (p := ⟨g, off + k * 4 + 1, none⟩) hg).trans e1
   have e2 := (hbw.cell (p := ⟨g, off + k * 4 + 2, none⟩) hg).trans e2
   have e3 := (hbw.cell (p := ⟨g, off + k * 4 + 3, none⟩) hg).trans e3
   have hvd := validC_drop hz hxl
   obtain ⟨⟨xi, xt, xs, its⟩, xv⟩ := x
   simp only at hxs hcp
   subst hxs
   simp only at e0 e1 e2 e3 hrow hvd
   have HTN := Lib.hid (fun W => tenantOK_any xt W)
   have HX := Lib.hid (And.intro hx hvd)
   have HROW := Lib.hid hrow
   have HBW := Lib.hid hbw
   clear hx hxl hz hrow hvd
   go_upto_region 6 with (fail)
   have hb2 := (Below.refl wr.heap.size wr).alloc (Nat.le_refl _) (.cells #[.int .i64 xi, .int .i64 xt, .int .i64 xs, .slice xa its.length xc] 77)
   have hc2 := heap_alloc_new wr (.cells #[.int .i64 xi, .int .i64 xt, .int .i64 xs, .slice xa its.length xc] 77)
   generalize wr.alloc (.cells #[.int .i64 xi, .int .i64 xt, .int .i64 xs, .slice xa its.length xc] 77) = W2 at hb2 hc2 ⊢
   generalize hC0 : wr.heap.size = C at hb2 hc2 ⊢
   have hC := hC0.symm
   clear hC0
   have q0 := cells_at hc2 0; have q1 := cells_at hc2 1; have q2 := cells_at hc2 2; have q3 := cells_at hc2 3
   have H2 := Lib.hid (And.intro hb2 (And.intro hc2 hC))
   clear hb2 hc2 e0 e1 e2 e3 hbw hC
   have hbC : Below w.heap.size w W2 := HBW.out.trans ((by have h1 := H2.out.1; rw [H2.out.2.2] at h1; exact h1 : Below wr.heap.size wr W2).mono HBW.out.size)
   have HBC := Lib.hid hbC
   clear hbC
   by_cases hf1 : xi ≤ z
   ·have t1 : decide (xi ≤ z) = true := decide_eq_true hf1
    have HN := Lib.hid (HX.out.2.2 (fun h => by have := h.1; simp only at this; omega))
    clear hf1
    go_wp2
    go_ret2
    exact ⟨HBC.out, .inr ⟨HN.out, rfl⟩⟩
   have t1 : decide (xi ≤ z) = false := decide_eq_false hf1
   by_cases hf2 : most ≤ xi
   ·have t2 : decide (most ≤ xi) = true := decide_eq_true hf2
    have HN := Lib.hid (HX.out.2.2 (fun h => by have := h.2.1; simp only at this; omega))
    clear hf1 hf2
    go_wp2
    go_ret2
    exact ⟨HBC.out, .inr ⟨HN.out, rfl⟩⟩
   have t2 : decide (most ≤ xi) = false := decide_eq_false hf2
   cases hf3 : tenB xt with
   | false =>
    have HN := Lib.hid (HX.out.2.2 (fun h => by have := SpaceM.tenB_iff.2 h.2.2.1; simp only at this; rw [hf3] at this; cases this))
    rw [hf3] at HTN
    clear hf1 hf2 hf3
    go_wp2_with (go_at_call 80; refine (HTN.out _).mono ?_; rintro e w' ⟨rfl, rfl⟩)
    go_ret2
    exact ⟨HBC.out, .inr ⟨HN.out, rfl⟩⟩
   | true =>
   rw [hf3] at HTN
   have HP3 := Lib.hid (show z < xi ∧ xi < most ∧ (0 ≤ xt ∧ xt < 16) from ⟨by omega, by omega, SpaceM.tenB_iff.1 hf3⟩)
   clear hf1 hf2 hf3
   go_upto_region 9 with (go_at_call 80; refine (HTN.out _).mono ?_; rintro e w' ⟨rfl, rfl⟩)
   clear t1 t2
   have hb3 := (Below.refl W2.heap.size W2).alloc (Nat.le_refl _) (.cells #[.int .i64 xi, .int .i64 xt, .pointer none, .int .i64 0] TPt)
   have hp3 := heap_alloc_new W2 (.cells #[.int .i64 xi, .int .i64 xt, .pointer none, .int .i64 0] TPt)
   generalize W2.alloc (.cells #[.int .i64 xi, .int .i64 xt, .pointer none, .int .i64 0] TPt) = W3 at hb3 hp3 ⊢
   generalize hP0 : W2.heap.size = P at hb3 hp3 ⊢
   have hP := hP0.symm
   clear hP0
   have hCl : C < W2.heap.size := (Array.getElem?_eq_some_iff.1 H2.out.2.1).1
   have hc3 := (hb3.block C (by omega)).trans H2.out.2.1
   clear q0 q1 q2 q3
   have q0 := cells_at hc3 0; have q3 := cells_at hc3 3
   have hPl : P < W3.heap.size := (Array.getElem?_eq_some_iff.1 hp3).1
   have h13 : Below wr.heap.size wr W3 := by
    have h1 := H2.out.1
    rw [H2.out.2.2] at h1
    exact h1.trans (hb3.mono (by rw [hP]; exact h1.size))
   have H3 := Lib.hid (And.intro h13 (And.intro hc3 (And.intro hp3 (And.intro hCl (And.intro hPl (And.intro hP H2.out.2.2))))))
   clear hb3 hc3 hp3 H2 HTN hCl hPl h13 hP
   go_wp2
   clear q0 q3
   go_loopw [11, 44] (fun z i wr => VpStG W3 P ((Value.slice ra k rc).ownBlock) xi xt its z i wr) (fun _ i _ => its.length - (intOf i).toNat)
   case atStart =>
    refine ⟨⟨0, -1, none, Nat.zero_le _, rfl, rfl, Iff.rfl, Same.refl _, fun _ _ _ => rfl, ?_, ?_⟩⟩
    ·rw [H3.out.2.2.1]
     have : cnt (addL (its.take 0)) = 0 := by simp only [List.take_zero]; exact cnt_empty
     rw [this]; rfl
    ·simp only [List.take_zero]
     exact NodeOk.mk_nil (anyB_false.2 fun _ _ => rfl)
   case round =>
    obtain ⟨j, n, r, hj, rfl, rfl, hbn, hsm, hkp, hpb, hno⟩ := hrel.st
    clear hrel
    have HI := Lib.hid (And.intro hsm (And.intro hkp (And.intro hpb hno)))
    have hP0 := cells_at hpb 2; have hP1 := cells_at hpb 3
    clear hsm hkp hpb hno
    by_cases hlj : j < its.length
    ·have hljd : decide ((j : Int) < (its.length : Int)) = true := decide_eq_true (by omega)
     have hji : (j : Int) ≤ 4096 := by omega
     obtain ⟨y, hy⟩ : ∃ y, its[j]? = some y := ⟨_, List.getElem?_eq_getElem hlj⟩
     obtain ⟨mg, mo, rfl, hmg, y0, y1⟩ := m_cells HROW.out hy
     have hmb : ∀ W : World, (∀ k, k ≠ P → k < W3.heap.size → W.heap[k]? = W3.heap[k]?) → W.heap[mg]? = w.heap[mg]? := fun W hW => by
      have hs1 := HO.out.1.bl.size
      have hs2 := H3.out.1.size
      have hq1 := H3.out.2.2.2.1
      have hq2 := H3.out.2.2.2.2.2.1
      have hq3 := H3.out.2.2.2.2.2.2
      rw [hW mg (by have := H3.out.2.2.2.1; omega) (by omega), H3.out.1.block mg (by omega), HO.out.1.bl.block mg hmg]
     have e0 : wr.cell? ⟨mg, mo + j * 2, none⟩ = some (.int .i64 y.1) := (World.cell?_of_block (a := ⟨mg, mo + j * 2, none⟩) (hmb wr HI.out.2.1)).trans y0
     have e1 : wr.cell? ⟨mg, mo + j * 2 + 1, none⟩ = some (.int .i64 y.2) := (World.cell?_of_block (a := ⟨mg, mo + j * 2 + 1, none⟩) (hmb wr HI.out.2.1)).trans y1
     have hvm := validM_drop hbn hy
     have hnt := addL_take hy
     obtain ⟨yb, yc⟩ := y
     simp only at e0 e1 hvm hnt
     have HBK := Lib.hid (fun W => blockOK_any yb W)
     have HVM := Lib.hid hvm
     have HNT := Lib.hid hnt
     have hbI : Below w.heap.size w wr := ⟨((same_below' HBW.out).trans (same_below' H3.out.1)).trans HI.out.1 |>.os, ((same_below' HBW.out).trans (same_below' H3.out.1)).trans HI.out.1 |>.tape, ((same_below' HBW.out).trans (same_below' H3.out.1)).trans HI.out.1 |>.output, ((same_below' HBW.out).trans (same_below' H3.out.1)).trans HI.out.1 |>.size, fun k' hk' => by
      have hs1 := HO.out.1.bl.size
      have hs2 := H3.out.1.size
      have hq1 := H3.out.2.2.2.1
      have hq2 := H3.out.2.2.2.2.2.1
      have hq3 := H3.out.2.2.2.2.2.2
      rw [HI.out.2.1 k' (by omega) (by omega), H3.out.1.block k' (by omega), HO.out.1.bl.block k' hk']⟩
     have HBI := Lib.hid hbI
     clear hy y0 y1 hmb hnt hbn hvm hbI
     go_upto_region 12 with (fail)
     have hb4 := (Below.refl wr.heap.size wr).alloc (Nat.le_refl _) (.cells #[.int .i64 yb, .int .i64 yc] 74)
     have hm4 := heap_alloc_new wr (.cells #[.int .i64 yb, .int .i64 yc] 74)
     generalize wr.alloc (.cells #[.int .i64 yb, .int .i64 yc] 74) = W4 at hb4 hm4 ⊢
     have hb4' := hb4
     generalize hM0 : wr.heap.size = M at hb4' hm4 ⊢
     have hM := hM0.symm
     clear hM0 hb4'
     have m0 := cells_at hm4 0; have m1 := cells_at hm4 1
     have H4 := Lib.hid (And.intro hb4 (And.intro hm4 hM))
     clear hb4 hm4 e0 e1 hP0 hP1 hM
     have hbJ : Below w.heap.size w W4 := HBI.out.trans (H4.out.1.mono HBI.out.size)
     have HBJ := Lib.hid hbJ
     have HBAD := Lib.hid (fun h : ¬ validM (-1) its => HX.out.2.2 (fun h2 => h h2.2.2.2))
     clear hbJ
     by_cases hf1 : yb ≤ n
     ·have t1 : decide (yb ≤ n) = true := decide_eq_true hf1
      have HN := Lib.hid (HBAD.out (HVM.out.2 (fun h => by omega)))
      clear hf1
      go_wp2
      go_ret2
      exact ⟨HBJ.out, .inr ⟨HN.out, rfl⟩⟩
     have t1 : decide (yb ≤ n) = false := decide_eq_false hf1
     cases hf2 : blkB yb with
     | false =>
      have HN := Lib.hid (HBAD.out (HVM.out.2 (fun h => by have := SpaceM.blkB_iff.2 h.2.1; rw [hf2] at this; cases this)))
      rw [hf2] at HBK
      clear hf1 hf2
      go_wp2_with (go_at_call 81; refine (HBK.out _).mono ?_; rintro e w' ⟨rfl, rfl⟩)
      go_ret2
      exact ⟨HBJ.out, .inr ⟨HN.out, rfl⟩⟩
     | true =>
     rw [hf2] at HBK
     by_cases hf3 : yc < 0
     ·have t2 : decide (yc < 0) = true := decide_eq_true hf3
      have HN := Lib.hid (HBAD.out (HVM.out.2 (fun h => by omega)))
      clear hf1 hf2 hf3
      go_wp2_with (go_at_call 81; refine (HBK.out _).mono ?_; rintro e w' ⟨rfl, rfl⟩)
      go_ret2
      exact ⟨HBJ.out, .inr ⟨HN.out, rfl⟩⟩
     have t2 : decide (yc < 0) = false := decide_eq_false hf3
     by_cases hf4 : (2147483648 : Int) ≤ yc
     ·have t3 : decide ((2147483648 : Int) ≤ yc) = true := decide_eq_true hf4
      have HN := Lib.hid (HBAD.out (HVM.out.2 (fun h => by omega)))
      clear hf1 hf2 hf3 hf4
      go_wp2_with (go_at_call 81; refine (HBK.out _).mono ?_; rintro e w' ⟨rfl, rfl⟩)
      go_ret2
      exact ⟨HBJ.out, .inr ⟨HN.out, rfl⟩⟩
     have t3 : decide ((2147483648 : Int) ≤ yc) = false := decide_eq_false hf4
     obtain ⟨hb1, hb2⟩ := SpaceM.blkB_iff.1 hf2
     have hnx := HVM.out.1 ⟨by omega, ⟨hb1, hb2⟩, by omega, by omega⟩
     obtain ⟨bn, rfl⟩ := Int.eq_ofNat_of_zero_le hb1
     have HY := Lib.hid (And.intro hnx (And.intro (show addL (its.take (j + 1)) = upd (addL (its.take j)) bn (some yc) from HNT.out) (show bn < 4096 by omega)))
     clear hf1 hf2 hf3 hf4 hb1 hb2 hnx HBAD HVM HNT
     go_upto_region 14 with (go_at_call 81; refine (HBK.out _).mono ?_; rintro e w' ⟨rfl, rfl⟩)
     clear t1 t2 t3 HBK m0 m1
     have hPw : P < wr.heap.size := (Array.getElem?_eq_some_iff.1 HI.out.2.2.1).1
     have hp4 : W4.heap[P]? = some (.cells #[.int .i64 xi, .int .i64 xt, .pointer r, .int .i64 (cnt (addL (its.take j)) : Int)] TPt (0, 0)) := (H4.out.1.block P hPw).trans HI.out.2.2.1
     have c2 : W4.drew.cell? ⟨P, 2, none⟩ = some (.pointer r) := cells_at hp4 2
     have c3 : W4.drew.cell? ⟨P, 3, none⟩ = some (.int .i64 (cnt (addL (its.take j)) : Int)) := cells_at hp4 3
     have hS0 : W4.drew.cell? ⟨M, 0, none⟩ = some (.int .i64 (bn : Int)) ∧ W4.drew.cell? ⟨M, 1, none⟩ = some (.int .i64 yc) := ⟨cells_at H4.out.2.1 0, cells_at H4.out.2.1 1⟩
     refine reg_begin (fun w' => w'.cell? ⟨M, 0, none⟩ = some (.int .i64 (bn : Int)) ∧ w'.cell? ⟨M, 1, none⟩ = some (.int .i64 yc)) (by kernel_rfl) ?_
     (apply reg_take 0 rfl rfl (by decide +kernel) rfl); (rintro w' ⟨h1, h2⟩; go_simp; rfl); exact hS0; simp only [zq1, zq2, zq3]
     (apply reg_take 2 rfl rfl (by decide +kernel) rfl); (rintro w' ⟨h1, h2⟩; go_simp; rfl); exact hS0; simp only [zq1, zq2, zq3]
     (apply reg_take 3 rfl rfl (by decide +kernel) rfl); (rintro w' ⟨h1, h2⟩; go_simp; rfl); exact hS0; simp only [zq1, zq2, zq3]
     (apply reg_take 4 rfl rfl (by decide +kernel) rfl); (rintro w' ⟨h1, h2⟩; go_simp; rfl); exact hS0; simp only [zq1, zq2, zq3]
     (apply reg_take 5 rfl rfl (by decide +kernel) rfl); (rintro w' ⟨h1, h2⟩; go_simp; rfl); exact hS0; simp only [zq1, zq2, zq3]
     (apply reg_take 7 rfl rfl (by decide +kernel) rfl); (rintro w' ⟨h1, h2⟩; go_simp; rfl); exact hS0; simp only [zq1, zq2, zq3]
     (apply reg_take 8 rfl rfl (by decide +kernel) rfl); (rintro w' ⟨h1, h2⟩; go_simp; rfl); exact hS0; simp only [zq1, zq2, zq3]
     refine reg_run 1 (.agg #[.pointer r, .int .i64 (cnt (addL (its.take j)) : Int)]) (W4.drew) rfl rfl (by decide +kernel) rfl (by go_simp) (hS0) ?_; simp only [zq1, zq2, zq3]
     have hob : ∀ b, (Value.slice ra k rc).ownBlock = some b → b < W3.heap.size := fun b hb => by have := own_lt HO.out.1.own b hb; have := H3.out.1.size; omega
     have hn4 : NodeOk TNode (fun k' => k' ≠ P ∧ (Value.slice ra k rc).ownBlock ≠ some k') W4.drew 2 (.pointer r) (addL (its.take j)) := NodeOk.below (H4.out.1.drew) HI.out.2.2.2
     have hs4 : W3.heap.size ≤ W4.drew.heap.size := Nat.le_trans HI.out.1.size H4.out.1.size
     refine reg_call 6 rfl rfl (by decide +kernel) rfl (f := 82) (args := #[.agg #[.pointer r, .int .i64 (cnt (addL (its.take j)) : Int)], .int .i64 (bn : Int), .int .i64 yc]) (R := fun v w' => ∃ q : Option Addr, v = .agg #[.pointer q, .int .i64 (cnt (addL (its.take (j + 1))) : Int)] ∧ Hid (Below W4.heap.size W4 w' ∧ NodeOk TNode (fun k' => k' ≠ P ∧ (Value.slice ra k rc).ownBlock ≠ some k') w' 2 (.pointer q) (addL (its.take (j + 1))))) (by kernel_rfl)
      ((tset_any (fun k' => k' ≠ P ∧ (Value.slice ra k rc).ownBlock ≠ some k') (.pointer r) (addL (its.take j)) bn yc HY.out.2.2 W4.drew hn4 (fun k' hk' => ⟨by have := H3.out.2.2.2.2.1; omega, fun h => by have := hob k' h; omega⟩)).mono fun e w' h => by
       obtain ⟨q, h1, h2, h3⟩ := h
       rw [← HY.out.2.1] at h1 h3
       exact ⟨_, h1, q, rfl, ((Below.refl _ W4).drew).trans h2, h3⟩) ?_
     rintro _ W5 ⟨q, rfl, h5⟩
     have hS5 : W5.cell? ⟨M, 0, none⟩ = some (.int .i64 (bn : Int)) ∧ W5.cell? ⟨M, 1, none⟩ = some (.int .i64 yc) := by
      have hb := (h5.out.1.block M (Array.getElem?_eq_some_iff.1 H4.out.2.1).1).trans H4.out.2.1
      exact ⟨cells_at hb 0, cells_at hb 1⟩
     refine ⟨hS5, ?_⟩
     simp only [zq1, zq2, zq3]
     (apply reg_take 9 rfl rfl (by decide +kernel) rfl); (rintro w' ⟨h1, h2⟩; go_simp; rfl); exact hS5; simp only [zq1, zq2, zq3]
     have hPl4 : P < W4.heap.size := (Array.getElem?_eq_some_iff.1 hp4).1
     have hp5 := (h5.out.1.block P hPl4).trans hp4
     have k2 := cells_at hp5 2; have k3 := cells_at hp5 3
     have f2 := thawed_at hp5 2; have f3 := thawed_at hp5 3
     have hMP : M ≠ P := by rw [H4.out.2.2]; omega
     have hS6 : ((W5.setCell ⟨P, 2, none⟩ (.pointer q)).setCell ⟨P, 3, none⟩ (.int .i64 (cnt (addL (its.take (j + 1))) : Int))).cell? ⟨M, 0, none⟩ = some (.int .i64 (bn : Int)) ∧ ((W5.setCell ⟨P, 2, none⟩ (.pointer q)).setCell ⟨P, 3, none⟩ (.int .i64 (cnt (addL (its.take (j + 1))) : Int))).cell? ⟨M, 1, none⟩ = some (.int .i64 yc) := by
      have hb := ((heap_setCell_other (W5.setCell ⟨P, 2, none⟩ (.pointer q)) ⟨P, 3, none⟩ M (.int .i64 (cnt (addL (its.take (j + 1))) : Int)) hMP).trans (heap_setCell_other W5 ⟨P, 2, none⟩ M (.pointer q) hMP)).trans ((h5.out.1.block M (Array.getElem?_eq_some_iff.1 H4.out.2.1).1).trans H4.out.2.1)
      exact ⟨cells_at hb 0, cells_at hb 1⟩
     refine reg_do 10 ((W5.setCell ⟨P, 2, none⟩ (.pointer q)).setCell ⟨P, 3, none⟩ (.int .i64 (cnt (addL (its.take (j + 1))) : Int))) rfl rfl (by decide +kernel) rfl (by go_simp) (hS6) ?_
     (apply reg_take 11 rfl rfl (by decide +kernel) rfl); (rintro w' ⟨h1, h2⟩; go_simp; rfl); exact hS6; simp only [zq1, zq2, zq3]
     refine reg_done (by decide +kernel) ?_
     have hpF := (((sat_block hp5).setCell (i := 2) (.pointer q)).setCell (i := 3) (.int .i64 (cnt (addL (its.take (j + 1))) : Int))).block
     have hkF : ∀ k', k' ≠ P → k' < W3.heap.size → ((W5.setCell ⟨P, 2, none⟩ (.pointer q)).setCell ⟨P, 3, none⟩ (.int .i64 (cnt (addL (its.take (j + 1))) : Int))).heap[k']? = W3.heap[k']? := fun k' h1 h2 => by
      have hsw := HI.out.1.size
      have hs4 := H4.out.1.size
      rw [heap_setCell_other _ _ _ _ h1, heap_setCell_other _ _ _ _ h1, h5.out.1.block k' (by omega), H4.out.1.block k' (by omega), HI.out.2.1 k' h1 h2]
     have hnF : NodeOk TNode (fun k' => k' ≠ P ∧ (Value.slice ra k rc).ownBlock ≠ some k') ((W5.setCell ⟨P, 2, none⟩ (.pointer q)).setCell ⟨P, 3, none⟩ (.int .i64 (cnt (addL (its.take (j + 1))) : Int))) 2 (.pointer q) (addL (its.take (j + 1))) :=
      NodeOk.keep (fun k' hk' _ => (heap_setCell_other _ _ _ _ hk'.1).trans (heap_setCell_other _ _ _ _ hk'.1)) h5.out.2
     have hsF : Same W3 ((W5.setCell ⟨P, 2, none⟩ (.pointer q)).setCell ⟨P, 3, none⟩ (.int .i64 (cnt (addL (its.take (j + 1))) : Int))) := (((HI.out.1.trans (same_below' H4.out.1)).trans (same_below' h5.out.1)).setCell _ _).setCell _ _
     have HF := Lib.hid (And.intro hsF (And.intro hkF (And.intro hpF hnF)))
     clear hS0 hS5 hS6 hpF hkF hnF hsF k2 k3 f2 f3 hp5 hp4 c2 c3 h5 hn4 hs4 hob
     go_wp2
     exact ⟨⟨⟨j + 1, (bn : Int), q, by omega, by rw [Int.natCast_add]; rfl, rfl, HY.out.1, HF.out.1, HF.out.2.1, HF.out.2.2.1, HF.out.2.2.2⟩⟩, by simp only [intOf]; omega⟩
    ·obtain rfl : j = its.length := by omega
     have hljd : decide ((its.length : Int) < (its.length : Int)) = false := decide_eq_false (by omega)
     rw [List.take_length] at HI hP1
     have hvM : validM (-1) its := hbn.2 validM_end
     have HNX := Lib.hid (HX.out.2.1 ⟨HP3.out.1, HP3.out.2.1, HP3.out.2.2, hvM⟩)
     clear hbn hvM
     go_upto_region 16 with (fail)
     have hCP : C ≠ P := by have := H3.out.2.2.2.1; have := H3.out.2.2.2.2.2.1; omega
     have hvl : ∀ b, (Value.slice ra k rc).ownBlock = some b → b < C := fun b hb => by have := own_lt HO.out.1.own b hb; rw [H3.out.2.2.2.2.2.2]; exact this
     have hCP2 : C < P := by have := H3.out.2.2.2.1; have := H3.out.2.2.2.2.2.1; omega
     have hCW : C < W3.heap.size := by have := H3.out.2.2.2.2.1; omega
     have hcw := (HI.out.2.1 C hCP hCW).trans H3.out.2.1
     have hk1 := fun k' (h : k' < C) => (HI.out.2.1 k' (by omega) (by omega)).trans (H3.out.1.block k' (by rw [← H3.out.2.2.2.2.2.2]; exact h))
     have hown2 := rest_of (own_keep HO.out.1.own fun g' hg' => hk1 g' (hvl g' hg'))
     have hcell : ∀ W : World, W.heap[C]? = wr.heap[C]? → W.heap[P]? = wr.heap[P]? → W.cell? ⟨C, 0, none⟩ = some (.int .i64 xi) ∧ W.cell? ⟨P, 0, none⟩ = some (.int .i64 xi) ∧ W.cell? ⟨P, 1, none⟩ = some (.int .i64 xt) ∧ W.cell? ⟨P, 2, none⟩ = some (.pointer r) ∧ W.cell? ⟨P, 3, none⟩ = some (.int .i64 (cnt (addL its) : Int)) := fun W h1 h2 => by
      have h1' := h1.trans hcw
      have h2' := h2.trans HI.out.2.2.1
      exact ⟨cells_at h1' 0, cells_at h2' 0, cells_at h2' 1, cells_at h2' 2, cells_at h2' 3⟩
     have hS0 : wr.drew.cell? ⟨C, 0, none⟩ = some (.int .i64 xi) ∧ wr.drew.cell? ⟨P, 0, none⟩ = some (.int .i64 xi) ∧ wr.drew.cell? ⟨P, 1, none⟩ = some (.int .i64 xt) ∧ wr.drew.cell? ⟨P, 2, none⟩ = some (.pointer r) ∧ wr.drew.cell? ⟨P, 3, none⟩ = some (.int .i64 (cnt (addL its) : Int)) := hcell wr.drew rfl rfl
     have hCl : C < wr.heap.size := (Array.getElem?_eq_some_iff.1 hcw).1
     have hPl : P < wr.heap.size := (Array.getElem?_eq_some_iff.1 HI.out.2.2.1).1
     have HK1 := Lib.hid hk1
     have HVL := Lib.hid hvl
     clear hP0 hP1 hk1 hcw
     refine reg_begin (fun w' => w'.cell? ⟨C, 0, none⟩ = some (.int .i64 xi) ∧ w'.cell? ⟨P, 0, none⟩ = some (.int .i64 xi) ∧ w'.cell? ⟨P, 1, none⟩ = some (.int .i64 xt) ∧ w'.cell? ⟨P, 2, none⟩ = some (.pointer r) ∧ w'.cell? ⟨P, 3, none⟩ = some (.int .i64 (cnt (addL its) : Int))) (by kernel_rfl) ?_
     (apply reg_take 0 rfl rfl (by decide +kernel) rfl); (rintro w' ⟨h1, h2, h3, h4, h5⟩; go_simp; rfl); exact hS0; simp only [zq1, zq2, zq3]
     (apply reg_take 1 rfl rfl (by decide +kernel) rfl); (rintro w' ⟨h1, h2, h3, h4, h5⟩; go_simp; rfl); exact hS0; simp only [zq1, zq2, zq3]
     (apply reg_take 4 rfl rfl (by decide +kernel) rfl); (rintro w' ⟨h1, h2, h3, h4, h5⟩; go_simp; rfl); exact hS0; simp only [zq1, zq2, zq3]
     (apply reg_take 5 rfl rfl (by decide +kernel) rfl); (rintro w' ⟨h1, h2, h3, h4, h5⟩; go_simp; rfl); exact hS0; simp only [zq1, zq2, zq3]
     have hA := hown2.drew.allocKeep (.cells #[.int .i64 xi, .int .i64 xt, .pointer r, .int .i64 (cnt (addL its) : Int)] TPt)
     have hS4 : (wr.drew.alloc (.cells #[.int .i64 xi, .int .i64 xt, .pointer r, .int .i64 (cnt (addL its) : Int)] TPt)).cell? ⟨C, 0, none⟩ = some (.int .i64 xi) ∧ (wr.drew.alloc (.cells #[.int .i64 xi, .int .i64 xt, .pointer r, .int .i64 (cnt (addL its) : Int)] TPt)).cell? ⟨P, 0, none⟩ = some (.int .i64 xi) ∧ (wr.drew.alloc (.cells #[.int .i64 xi, .int .i64 xt, .pointer r, .int .i64 (cnt (addL its) : Int)] TPt)).cell? ⟨P, 1, none⟩ = some (.int .i64 xt) ∧ (wr.drew.alloc (.cells #[.int .i64 xi, .int .i64 xt, .pointer r, .int .i64 (cnt (addL its) : Int)] TPt)).cell? ⟨P, 2, none⟩ = some (.pointer r) ∧ (wr.drew.alloc (.cells #[.int .i64 xi, .int .i64 xt, .pointer r, .int .i64 (cnt (addL its) : Int)] TPt)).cell? ⟨P, 3, none⟩ = some (.int .i64 (cnt (addL its) : Int)) := hcell _ (Below.heap_alloc wr.drew _ C hCl) (Below.heap_alloc wr.drew _ P hPl)
     refine reg_run 2 (.slice (some ⟨wr.drew.heap.size, 0, none⟩) 1 1) (wr.drew.alloc (.cells #[.int .i64 xi, .int .i64 xt, .pointer r, .int .i64 (cnt (addL its) : Int)] TPt)) rfl rfl (by decide +kernel) rfl (by go_simp) (hS4) ?_; simp only [zq1, zq2, zq3]
     obtain ⟨hti, hz0, hts, hz2⟩ := HT.out
     obtain ⟨v', w5, hr, hsm5, hs5⟩ := run_append_ownAt (P := Tryz.prog) 132 132 TPt ti _ Tryz.underlying132 hti hz0 (by rw [hts]; rfl) (.slice ra k rc) k (lp.flatMap volE) (by rw [hts]; exact hA) ⟨wr.drew.heap.size, 0, none⟩ 1 1 [.int .i64 xi, .int .i64 xt, .pointer r, .int .i64 (cnt (addL its) : Int)] (by rw [hts]; rfl)
      (by intro j u hu; rw [Addr.add_mid, cells_at (heap_alloc_new _ _), Nat.zero_add]; simpa using hu) (by simp [Value.oneCell']) (by unfold maxLen; omega) (by rw [hz2]; omega)
     rw [hts] at hs5
     have hrk := rest_keep hs5
     have hS6 : w5.cell? ⟨C, 0, none⟩ = some (.int .i64 xi) ∧ w5.cell? ⟨P, 0, none⟩ = some (.int .i64 xi) ∧ w5.cell? ⟨P, 1, none⟩ = some (.int .i64 xt) ∧ w5.cell? ⟨P, 2, none⟩ = some (.pointer r) ∧ w5.cell? ⟨P, 3, none⟩ = some (.int .i64 (cnt (addL its) : Int)) := hcell w5 (hrk.1 C (fun h => by have := HVL.out C h; omega) hCl) (hrk.1 P (fun h => by have := HVL.out P h; omega) hPl)
     refine reg_run 3 (v') (w5) rfl rfl (by decide +kernel) rfl (exec_app27 rfl rfl rfl hr) (hS6) ?_; simp only [zq1, zq2, zq3]
     obtain ⟨ra', rc', rfl⟩ := ownAt_slice hs5
     (apply reg_take 6 rfl rfl (by decide +kernel) rfl); (rintro w' ⟨h1, h2, h3, h4, h5⟩; go_simp; rfl); exact hS6; simp only [zq1, zq2, zq3]
     (apply reg_take 7 rfl rfl (by decide +kernel) rfl); (rintro w' ⟨h1, h2, h3, h4, h5⟩; go_simp; rfl); exact hS6; simp only [zq1, zq2, zq3]
     refine reg_done (by decide +kernel) ?_
     have hsame : Same w w5 := (((same_below' HO.out.1.bl).trans (same_below' H3.out.1)).trans HI.out.1).trans ((((Same.refl wr).drew).alloc _).trans hsm5)
     have hwC : w.heap.size ≤ C := by rw [H3.out.2.2.2.2.2.2]; exact HO.out.1.bl.size
     have hbF : Below w.heap.size w w5 := ⟨hsame.os, hsame.tape, hsame.output, hsame.size, fun k' hk' => by
      rw [hrk.1 k' (fun h => by have := HO.out.1.ge k' h; omega) (by omega), HK1.out k' (by omega), HO.out.1.bl.block k' hk']⟩
     have hgF : ∀ g', (Value.slice ra' (k + 1) rc').ownBlock = some g' → w.heap.size ≤ g' := fun g' hg' => by
      rcases hrk.2 g' hg' with h | h
      ·exact HO.out.1.ge g' h
      ·omega
     have htF : ∀ y ∈ lp ++ [((toPart false ⟨xi, xt, xs, its⟩ : PartM), Value.pointer r)], NodeOk TNode (fun b => (Value.slice ra' (k + 1) rc').ownBlock ≠ some b) w5 2 y.2 y.1.m := by
      have hstep : ∀ (y : ElM), NodeOk TNode (fun b => (Value.slice ra k rc).ownBlock ≠ some b) wr 2 y.2 y.1.m → NodeOk TNode (fun b => (Value.slice ra' (k + 1) rc').ownBlock ≠ some b) w5 2 y.2 y.1.m := fun y hy => by
       have h1 : NodeOk TNode (fun b => (Value.slice ra k rc).ownBlock ≠ some b ∧ b < wr.heap.size) wr 2 y.2 y.1.m := hy.weaken fun b h1 h2 => ⟨h1, h2⟩
       have h2 := h1.keep (w' := w5) fun b hb _ => hrk.1 b hb.1 hb.2
       refine h2.weaken fun b hb _ he => ?_
       rcases hrk.2 b he with h | h
       ·exact hb.1 h
       ·omega
      intro y hy
      rcases List.mem_append.1 hy with hy | hy
      ·refine hstep y ?_
       have h0 := HO.out.1.tr y hy
       have h1 := h0.weaken (ok' := fun b => (Value.slice ra k rc).ownBlock ≠ some b ∧ b < C) fun b h1 h2 => ⟨h1, by rw [H3.out.2.2.2.2.2.2]; exact h2⟩
       exact (h1.keep (w' := wr) fun b hb _ => HK1.out b hb.2).weaken fun b hb _ => hb.1
      ·obtain rfl : y = _ := List.mem_singleton.1 hy
       exact hstep _ (HI.out.2.2.2.weaken fun b hb _ => hb.2)
     have HF := Lib.hid (VcOwn.mk hbF (show Sat w5 (ownAt TPt 4 (.slice ra' (k + 1) rc') (k + 1) ((lp ++ [((toPart false ⟨xi, xt, xs, its⟩ : PartM), Value.pointer r)]).flatMap volE) * emp) from by rw [star_emp, List.flatMap_append]; exact hs5.left) hgF htF)
     clear hS0 hS4 hS6 hA hown2 hrk hs5 hsm5 hr hti hz0 hts hz2 hsame hbF hgF htF hcell hvl hCl hPl hwC hCP hCP2 hCW
     go_wp2
     refine ⟨⟨⟨k + 1, xi, lp ++ [(toPart false ⟨xi, xt, xs, its⟩, .pointer r)], by omega, by rw [Int.natCast_add]; rfl, rfl, HNX.out, ?_, HF.out⟩⟩, by simp only [intOf]; omega⟩
     rw [List.map_append, HO.out.2, List.take_add_one, HX.out.1, Option.toList_some, List.map_append]; rfl
  ·have hke : k = l.length := by omega
   have hltd : decide ((k : Int) < (l.length : Int)) = false := decide_eq_false (by omega)
   have hkl : k = (l.map Prod.fst).length := by rw [List.length_map]; exact hke
   have hval : validC most (-1) (l.map Prod.fst) := hz.2 (by rw [hkl]; exact validC_end)
   have HVL := Lib.hid hval
   clear hbw hz hval hkl
   go_wp2
   go_ret2
   have hfst : lp.map Prod.fst = l.map (fun x => toPart false x.1) := by have := HO.out.2; rwa [hke, List.take_length] at this
   have h9 := congrArg List.length hfst
   rw [List.length_map, List.length_map] at h9
   have hlpk : lp.length = k := by omega
   refine ⟨HO.out.1.bl, .inl ⟨HVL.out, _, lp, rfl, hfst, ?_, fun x hx => NodeOk.at (HO.out.1.tr x hx)⟩⟩
   rw [hlpk]
   exact RowsAt.own HO.out.1.own (by omega)
theorem vcont_ok (v : Value) (l : List ElC) (most : Int) (w : World) (hc : CntL w v l) (hn : l.length ≤ 20) (hmx : ∀ x ∈ l, x.1.maps.length ≤ 40) (hv : validC most (-1) (l.map Prod.fst)) :
  Calls Tryz.prog 54 #[v, .int .i64 most] w fun e w' => ∃ v', e = .returned (.tuple #[v', .bool true]) ∧ Hid (Below w.heap.size w w' ∧ ∃ lp : List ElM, lp.map Prod.fst = (l.map fun x => toPart false x.1) ∧ RowsAt w' v' lp.length (lp.flatMap volE) ∧ ElsAt TNode w' lp) :=
 (vcont_any v l most w hc hn hmx).mono fun e w' h => by
  rcases h.out.2 with ⟨_, v', lp, h1, h2, h3, h4⟩ | ⟨h1, _⟩
  ·exact ⟨v', h1, h.out.1, lp, h2, h3, h4⟩
  ·exact absurd hv h1
theorem vcont_no (v : Value) (l : List ElC) (most : Int) (w : World) (hc : CntL w v l) (hn : l.length ≤ 20) (hmx : ∀ x ∈ l, x.1.maps.length ≤ 40) (hv : ¬ validC most (-1) (l.map Prod.fst)) :
  Calls Tryz.prog 54 #[v, .int .i64 most] w fun e w' => e = .returned (.tuple #[.slice none 0 0, .bool false]) ∧ Below w.heap.size w w' :=
 (vcont_any v l most w hc hn hmx).mono fun e w' h => by
  rcases h.out.2 with ⟨h1, _⟩ | ⟨_, h1⟩
  ·exact absurd h1 hv
  ·exact ⟨h1, h.out.1⟩
end Go.Proofs.YteikbikopgabjaaGreatDoor
