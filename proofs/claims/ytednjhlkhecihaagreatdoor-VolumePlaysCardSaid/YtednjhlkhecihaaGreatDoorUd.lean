/- solventref27.Space: Unmap, Map, Clone. Printed by ud.py. -/
import Derived.Test.YtednjhlkhecihaaGreatDoorUc
import Derived.Test.YtednjhlkhecihaaGreatDoorUp
import Derived.Test.YtednjhlkhecihaaGreatDoorWe
namespace Go.Proofs.YtednjhlkhecihaaGreatDoor
open Go.RowKit Go.Vol Go.Sl

theorem finG {ok pr : Nat → Prop} {w W3 Wf : World} {B : Nat} {v : Value} {L : List PartM} (hp : ∀ b, pr b → b ≠ B ∧ b ≠ B + 1 ∧ newer ok w b) (h : RefL pr W3 v L) (hs : W3.heap.size ≤ Wf.heap.size) (hk : ∀ k, k ≠ B → k ≠ B + 1 → Wf.heap[k]? = W3.heap[k]?) : RefL (newer ok w) Wf v L :=
  (h.keep hs fun b hb _ => hk b (hp b hb).1 (hp b hb).2.1).weaken fun b hb _ => (hp b hb).2.2
theorem news2 (W : World) (a b : Value) (T : TypeId) : ∀ (j : Nat) (u : Value), ([a, b] : List Value)[j]? = some u → (W.alloc (.cells #[a, b] T)).cell? ((⟨W.heap.size, 0, none⟩ : Addr).add j) = some u := by
  intro j u hu
  rw [Addr.add_mid, cells_at (heap_alloc_new _ _), Nat.zero_add]
  simpa using hu
theorem flat_ref (l : List (Nat × Int)) (x : Nat × Int) : (l ++ [x]).flatMap refE = l.flatMap refE ++ refE x := by rw [List.flatMap_append]; simp
structure UnSt (W5 : World) (its : List (Nat × Int)) (b : Nat) (v i : Value) (wr : World) : Prop where
  st : ∃ j : Nat, j ≤ its.length ∧ i = .int .i64 (j : Int) ∧ Same W5 wr ∧ Sat wr (ownAt 100 2 v ((its.take j).filter fun y => y.1 != b).length (((its.take j).filter fun y => y.1 != b).flatMap refE) * old W5)
structure MpSt (W5 : World) (its : List (Nat × Int)) (b : Nat) (c : Int) (v d i : Value) (wr : World) : Prop where
  st : ∃ j : Nat, j ≤ its.length ∧ i = .int .i64 (j : Int) ∧ d = .bool (mapS b c (its.take j)).1 ∧ Same W5 wr ∧ Sat wr (ownAt 100 2 v (mapS b c (its.take j)).2.length ((mapS b c (its.take j)).2.flatMap refE) * old W5)
/-- A part's box, of which the list was written behind a loop. -/
theorem box_list {w W5 wr : World} {P : Nat} {a b c d x : Value} {R : HProp} (hs : Same w W5) (h : Sat W5 (pts P (.cells #[a, b, c, d] TP (0, 0)) * R)) (hb : Below W5.heap.size W5 wr) :
    Hid (Same w (wr.setCell ⟨P, 3, none⟩ x) ∧ Sat (wr.setCell ⟨P, 3, none⟩ x) (pts P (.cells #[a, b, c, x] TP (0, 0)) * R)) :=
  ⟨(hs.trans (same_below hb)).setCell _ _, ((h.keep hb.block).setCell (i := 3) x)⟩

set_option maxRecDepth 20000 in
set_option maxHeartbeats 4000000 in
theorem runmap_any {ok : Nat → Prop} (vv vs : Value) (S : SpaceM) (vol b : Int) (w : World) (hS : RefAt ok w vv vs S) (hwf : S.WF) :
    Calls Tryz.prog 32 #[.agg #[vv, vs], .int .i64 vol, .int .i64 b] w (RRes2 ok w (S.unmap vol b)) := by
  obtain ⟨va, vc, rfl, hvc, hvm⟩ := hS.v.slice
  obtain ⟨sa, sc, rfl, hsc, hsm⟩ := hS.s.slice
  unfold maxLen at hvm hsm
  have HS := Lib.hid (And.intro hS hwf)
  have hvl := hwf.vlen
  have hsl := hwf.slen
  have H0 : Hid (Same w ((w.alloc (.cells #[.slice va S.vols.length vc, .slice sa S.snaps.length sc] TRS)).alloc (.cells #[.slice none 0 0, .slice none 0 0] TRS)) ∧ Sat ((w.alloc (.cells #[.slice va S.vols.length vc, .slice sa S.snaps.length sc] TRS)).alloc (.cells #[.slice none 0 0, .slice none 0 0] TRS)) (pts w.heap.size (.cells #[.slice va S.vols.length vc, .slice sa S.snaps.length sc] TRS (0, 0)) * (pts (w.heap.size + 1) (.cells #[.slice none 0 0, .slice none 0 0] TRS (0, 0)) * old w))) := boxes_new w _ _
  have HB := Lib.hid ((Below.refl w.heap.size w))
  clear hS hwf
  go_enter Tryz.func32, Tryz.ntmps32
  go_upto_region 1 with (fail)
  replace H1 := H0
  clear H0
  generalize ((w.alloc (.cells #[.slice va S.vols.length vc, .slice sa S.snaps.length sc] TRS)).alloc (.cells #[.slice none 0 0, .slice none 0 0] TRS)) = W1 at H1 ⊢
  generalize hBB : w.heap.size = B at H1 ⊢
  have c0 := cells_at H1.out.2.block 0; have c1 := cells_at H1.out.2.block 1; have d0 := cells_at H1.out.2.right.block 0; have d1 := cells_at H1.out.2.right.block 1; have f0 := thawed_at H1.out.2.block 0; have g0 := thawed_at H1.out.2.right.block 0; have g1 := thawed_at H1.out.2.right.block 1; have f1 := thawed_at H1.out.2.block 1

  have hb1 : Below w.heap.size w W1 := two_below H1.out.1 H1.out.2
  have HAT := Lib.hid (fun (W : World) (hb : Below w.heap.size w W) => rat_any (.slice va S.vols.length vc) S.vols vol W (HS.out.1.v.below hb))
  have HB1 := Lib.hid hb1
  clear hb1
  have HT := Lib.hid (fun W => rblk_b b W)
  rcases atP_cases S.vols vol with ⟨hn, hi⟩ | ⟨p, hp, hi, hlt, hid⟩
  · have HR := Lib.hid (show S.unmap vol b = ⟨none, 0, 12⟩ by unfold SpaceM.unmap SpaceM.change; rw [hn])
    rw [hi] at HAT
    clear hn hi
    go_upto_region 3 with (go_at_call 51; refine (HAT.out _ HB1.out).mono ?_; rintro e W2 ⟨rfl, h2⟩; replace HB1 := Lib.hid (HB1.out.trans (h2.mono HB1.out.size)); replace H1 := Lib.hid (And.intro (H1.out.1.trans (same_below h2)) (H1.out.2.keep h2.block)); clear c0 c1 d0 d1 f0 f1 g0 g1; have c0 := cells_at H1.out.2.block 0; have c1 := cells_at H1.out.2.block 1; have d0 := cells_at H1.out.2.right.block 0; have d1 := cells_at H1.out.2.right.block 1; have f0 := thawed_at H1.out.2.block 0; have g0 := thawed_at H1.out.2.right.block 0; have g1 := thawed_at H1.out.2.right.block 1; have f1 := thawed_at H1.out.2.block 1; clear h2)
    go_wp2
    have HF := box_res (.slice none 0 0) (.slice none 0 0) H1.out.1 H1.out.2
    refine bodyPost_ret (results_c2 rfl rfl rfl HF.out.2.right.block) rfl ?_
    rw [HR.out]
    exact ⟨_, _, rfl, by subst hBB; exact two_below HF.out.1 HF.out.2, rfl, rfl⟩
  · rw [hi] at HAT
    cases hb : blkB b with
    | false =>
      rw [hb] at HT
      have HR := Lib.hid (show S.unmap vol b = ⟨none, 0, 1⟩ by unfold SpaceM.unmap SpaceM.change; rw [hp]; simp [hb])
      generalize hk : atN S.vols vol = k at HAT
      have hneg : decide ((k : Int) < 0) = false := decide_eq_false (by omega)
      clear hp hi hlt hid hk
      go_upto_region 6 with (first | (go_at_call 51; refine (HAT.out _ HB1.out).mono ?_; rintro e W2 ⟨rfl, h2⟩; replace HB1 := Lib.hid (HB1.out.trans (h2.mono HB1.out.size)); replace H1 := Lib.hid (And.intro (H1.out.1.trans (same_below h2)) (H1.out.2.keep h2.block)); clear c0 c1 d0 d1 f0 f1 g0 g1; have c0 := cells_at H1.out.2.block 0; have c1 := cells_at H1.out.2.block 1; have d0 := cells_at H1.out.2.right.block 0; have d1 := cells_at H1.out.2.right.block 1; have f0 := thawed_at H1.out.2.block 0; have g0 := thawed_at H1.out.2.right.block 0; have g1 := thawed_at H1.out.2.right.block 1; have f1 := thawed_at H1.out.2.block 1; clear h2) | (go_at_call 76; refine (HT.out _).mono ?_; rintro e Wt ⟨rfl, ht⟩; replace HB1 := Lib.hid (HB1.out.trans (ht.mono HB1.out.size)); replace H1 := Lib.hid (And.intro (H1.out.1.trans (same_below ht)) (H1.out.2.keep ht.block)); clear c0 c1 d0 d1 f0 f1 g0 g1; have c0 := cells_at H1.out.2.block 0; have c1 := cells_at H1.out.2.block 1; have d0 := cells_at H1.out.2.right.block 0; have d1 := cells_at H1.out.2.right.block 1; have f0 := thawed_at H1.out.2.block 0; have g0 := thawed_at H1.out.2.right.block 0; have g1 := thawed_at H1.out.2.right.block 1; have f1 := thawed_at H1.out.2.block 1; clear ht))
      go_wp2
      have HF := box_res (.slice none 0 0) (.slice none 0 0) H1.out.1 H1.out.2
      refine bodyPost_ret (results_c2 rfl rfl rfl HF.out.2.right.block) rfl ?_
      rw [HR.out]
      exact ⟨_, _, rfl, by subst hBB; exact two_below HF.out.1 HF.out.2, rfl, rfl⟩
    | true =>
      rw [hb] at HT
      obtain ⟨hb1, hb2⟩ := SpaceM.blkB_iff.1 hb
      obtain ⟨bn, rfl⟩ := Int.eq_ofNat_of_zero_le hb1
      have hbn : bn < 4096 := by omega
      obtain ⟨LN, hLN⟩ : ∃ LN, LN = S.vols.set (atN S.vols vol) { p with m := upd p.m bn none } := ⟨_, rfl⟩
      have HR := Lib.hid (show S.unmap vol (bn : Int) = ⟨some { S with vols := LN }, 0, 0⟩ by unfold SpaceM.unmap SpaceM.change; rw [hp, hLN]; simp [hb, Int.toNat_natCast])
      obtain ⟨g, pa, pc, rfl, hg, e0, e1, e2, e3, hrow⟩ := part_at HS.out.1.v hp
      have hwi := (fun (W W5 : World) (hb : Below w.heap.size w W) (na : Option Addr) (nc : Nat) (hr : RowK (fun b => W5.heap.size ≤ b) W (.slice na (items (upd p.m bn none)).length nc) (items (upd p.m bn none)).length ((items (upd p.m bn none)).flatMap refE)) => rwith_any (ok := newer (fun b => ok b ∧ b < w.heap.size) W5) (.slice (some ⟨g, 0, none⟩) S.vols.length vc) S.vols (atN S.vols vol) p.id p.tenant p.src (upd p.m bn none) na (items (upd p.m bn none)).length nc W ((in_ref HS.out.1.v hb).weaken fun _ h _ => .inl h) (by omega) hlt (hr.weaken fun _ h _ => .inr h))
      rw [← hLN] at hwi
      have HWI := Lib.hid hwi
      clear hwi
      have HE := Lib.hid (And.intro hg (And.intro e0 (And.intro e1 (And.intro e2 e3))))
      have hcp := cnt_le p.m
      rw [← items_len] at hcp
      
      have hfu := filter_upd (m := p.m) hbn
      rw [← hfu] at HWI
      have HROW := Lib.hid hrow
      generalize hk : atN S.vols vol = k at *
      generalize hits : items p.m = its at *
      have hneg : decide ((k : Int) < 0) = false := decide_eq_false (by omega)
      have hk63 : (k : Int) ≤ 64 := by omega
      clear hp hi hid hLN hk hb hb1 hb2 e0 e1 e2 e3 hrow hg hfu hits
      go_upto_region 7 with (first | (go_at_call 51; refine (HAT.out _ HB1.out).mono ?_; rintro e W2 ⟨rfl, h2⟩; replace HB1 := Lib.hid (HB1.out.trans (h2.mono HB1.out.size)); replace H1 := Lib.hid (And.intro (H1.out.1.trans (same_below h2)) (H1.out.2.keep h2.block)); clear c0 c1 d0 d1 f0 f1 g0 g1; have c0 := cells_at H1.out.2.block 0; have c1 := cells_at H1.out.2.block 1; have d0 := cells_at H1.out.2.right.block 0; have d1 := cells_at H1.out.2.right.block 1; have f0 := thawed_at H1.out.2.block 0; have g0 := thawed_at H1.out.2.right.block 0; have g1 := thawed_at H1.out.2.right.block 1; have f1 := thawed_at H1.out.2.block 1; clear h2) | (go_at_call 76; refine (HT.out _).mono ?_; rintro e Wt ⟨rfl, ht⟩; replace HB1 := Lib.hid (HB1.out.trans (ht.mono HB1.out.size)); replace H1 := Lib.hid (And.intro (H1.out.1.trans (same_below ht)) (H1.out.2.keep ht.block)); clear c0 c1 d0 d1 f0 f1 g0 g1; have c0 := cells_at H1.out.2.block 0; have c1 := cells_at H1.out.2.block 1; have d0 := cells_at H1.out.2.right.block 0; have d1 := cells_at H1.out.2.right.block 1; have f0 := thawed_at H1.out.2.block 0; have g0 := thawed_at H1.out.2.right.block 0; have g1 := thawed_at H1.out.2.right.block 1; have f1 := thawed_at H1.out.2.block 1; clear ht))
      have e0 := (HB1.out.cell (p := ⟨g, k * 4, none⟩) HE.out.1).trans HE.out.2.1
      have e1 := (HB1.out.cell (p := ⟨g, k * 4 + 1, none⟩) HE.out.1).trans HE.out.2.2.1
      have e2 := (HB1.out.cell (p := ⟨g, k * 4 + 2, none⟩) HE.out.1).trans HE.out.2.2.2.1
      have e3 := (HB1.out.cell (p := ⟨g, k * 4 + 3, none⟩) HE.out.1).trans HE.out.2.2.2.2
      go_upto_region 8 with (fail)
      have hbP := (Below.refl Wt.heap.size Wt).alloc (Nat.le_refl _) (.cells #[.int .i64 p.id, .int .i64 p.tenant, .int .i64 p.src, .slice pa its.length pc] TP)
      have hPQ := H1.out.2.alloc (.cells #[.int .i64 p.id, .int .i64 p.tenant, .int .i64 p.src, .slice pa its.length pc] TP)
      replace HB1 := Lib.hid (HB1.out.trans (hbP.mono HB1.out.size)); replace H1 := Lib.hid (And.intro (H1.out.1.trans (same_below hbP)) (H1.out.2.keep hbP.block)); clear c0 c1 d0 d1 f0 f1 g0 g1; have c0 := cells_at H1.out.2.block 0; have c1 := cells_at H1.out.2.block 1; have d0 := cells_at H1.out.2.right.block 0; have d1 := cells_at H1.out.2.right.block 1; have f0 := thawed_at H1.out.2.block 0; have g0 := thawed_at H1.out.2.right.block 0; have g1 := thawed_at H1.out.2.right.block 1; have f1 := thawed_at H1.out.2.block 1
      clear hbP e0 e1 e2 e3
      generalize Wt.alloc (.cells #[.int .i64 p.id, .int .i64 p.tenant, .int .i64 p.src, .slice pa its.length pc] TP) = W5 at H1 HB1 hPQ c0 c1 d0 d1 f0 f1 g0 g1 ⊢
      generalize Wt.heap.size = P at hPQ ⊢
      have HPQ := Lib.hid hPQ
      have p0 := cells_at hPQ.block 0; have p1 := cells_at hPQ.block 1; have p2 := cells_at hPQ.block 2; have p3 := cells_at hPQ.block 3
      clear hPQ
      obtain ⟨ti, hti, hz0, hts, hz2⟩ := info_parts infoMap2
      go_wp2
      go_loopw [11, 12] (fun v i wr => UnSt W5 its bn v i wr) (fun _ i _ => its.length - (intOf i).toNat)
      case atStart => exact ⟨⟨0, Nat.zero_le _, rfl, Same.refl _, ownAt_nil.2 (Sat.old W5)⟩⟩
      case round =>
        clear p0 p1 p2 p3 c0 c1 d0 d1 f0 f1 g0 g1
        obtain ⟨j, hj, rfl, hsm, hs⟩ := hrel.st
        clear hrel
        obtain ⟨ra, rc, rfl⟩ := ownAt_slice hs
        have hbw := hsm.below_of hs
        have hq5 := HPQ.out.keep hbw.block
        have p3 := cells_at hq5.block 3
        have q3 := thawed_at hq5.block 3
        have H9 := Lib.hid (And.intro hsm hs)
        have HBW := Lib.hid hbw
        have hfl : ((its.take j).filter fun y => y.1 != bn).length ≤ 4096 := Nat.le_trans (List.length_filter_le _ _) (by rw [List.length_take]; omega)
        clear hsm hs hq5
        by_cases hlj : j < its.length
        · have hljd : decide ((j : Int) < (its.length : Int)) = true := decide_eq_true (by omega)
          have hji : (j : Int) ≤ 4096 := by omega
          obtain ⟨x, hx⟩ : ∃ x, its[j]? = some x := ⟨_, List.getElem?_eq_getElem hlj⟩
          obtain ⟨pg, rfl, hpg, e0, e1⟩ := ref_cells HROW.out.rows hx
          have hbW := HB1.out.trans (hbw.mono HB1.out.size)
          have e0 := (hbW.cell (p := ⟨pg, j * 2, none⟩) hpg).trans e0
          have e1 := (hbW.cell (p := ⟨pg, j * 2 + 1, none⟩) hpg).trans e1
          have hft := filter_take (b := bn) hx
          obtain ⟨xb, xc⟩ := x
          simp only at e0 e1 hft
          by_cases hxb : xb = bn
          · have hne : ((xb : Int) != (bn : Int)) = false := by simp [hxb]
            rw [if_pos hxb, List.append_nil] at hft
            have HFT := Lib.hid hft
            clear hft hxb hx hbw hbW
            go_wp2
            refine ⟨⟨⟨j + 1, by omega, by rw [Int.natCast_add]; rfl, H9.out.1, by rw [HFT.out]; exact H9.out.2⟩⟩, by simp only [intOf]; omega⟩
          · have hne : ((xb : Int) != (bn : Int)) = true := by simp; omega
            rw [if_neg hxb] at hft
            have HFT := Lib.hid hft
            clear hft hxb hx hbw hbW
            go_wp2_with (at_builtin; refine wpList_append_ownAt rfl _ _ 69 100 rfl ti _ Tryz.underlying69 hti hz0 hts hz2 rfl (H9.out.2.allocKeep _) ([.int .i64 (xb : Int), .int .i64 xc]) rfl rfl rfl (news2 _ _ _ _) (by simp [Value.oneCell']) (by unfold maxLen; omega) (by omega) ?_; intro v2 w2 h2; obtain ⟨r2, k2, rfl⟩ := ownAt_slice h2.out.2)
            refine ⟨⟨⟨j + 1, by omega, by rw [Int.natCast_add]; rfl, (H9.out.1.alloc _).trans h2.out.1, by rw [HFT.out, flat_ref, List.length_append]; exact h2.out.2⟩⟩, by simp only [intOf]; omega⟩
        · obtain rfl : j = its.length := by omega
          have hljd : decide ((its.length : Int) < (its.length : Int)) = false := decide_eq_false (by omega)
          rw [List.take_length] at H9
          generalize hN : (its.filter fun y => y.1 != bn) = N at *
          rw [List.take_length, hN]
          clear hbw hN
          go_upto_region 15 with (fail)
          have hbl := box_list (x := .slice ra N.length rc) H1.out.1 HPQ.out HBW.out
          have hrk := (RowK.own (R := emp) (w := W5) (by rw [emp_star]; exact H9.out.2) (by omega)).keep (w' := wr.setCell ⟨P, 3, none⟩ (.slice ra N.length rc)) (by simp [World.setCell]) (fun b hb _ => heap_setCell_other _ _ _ _ (by have := HPQ.out.lt; simp only; omega))
          have hsz6 : W5.heap.size ≤ (wr.setCell ⟨P, 3, none⟩ (.slice ra N.length rc)).heap.size := by have := HBW.out.size; simpa [World.setCell] using this
          generalize wr.setCell ⟨P, 3, none⟩ (.slice ra N.length rc) = W6 at hbl hrk hsz6 ⊢
          have hp6 := hbl.out.2
          have HLT := Lib.hid H1.out.2.right.lt
          replace H1 := Lib.hid (And.intro hbl.out.1 hbl.out.2.right)
          have HB6 := Lib.hid (two_below H1.out.1 H1.out.2)
          have HW6 := Lib.hid (HWI.out W6 W5 HB6.out ra rc hrk)
          have HPR := Lib.hid (show ∀ b, newer (newer (fun b => ok b ∧ b < w.heap.size) W5) W6 b → b ≠ B ∧ b ≠ B + 1 ∧ newer ok w b from by
            intro b hb
            have := HLT.out
            rcases hb with (hb | hb) | hb
            · exact ⟨by omega, by omega, .inl hb.1⟩
            · exact ⟨by omega, by omega, .inr (by omega)⟩
            · exact ⟨by omega, by omega, .inr (by omega)⟩)
          have c0 := cells_at H1.out.2.block 0; have c1 := cells_at H1.out.2.block 1; have d0 := cells_at H1.out.2.right.block 0; have d1 := cells_at H1.out.2.right.block 1; have f0 := thawed_at H1.out.2.block 0; have g0 := thawed_at H1.out.2.right.block 0; have g1 := thawed_at H1.out.2.right.block 1; have f1 := thawed_at H1.out.2.block 1
          clear p3 q3
          have p0 := cells_at hp6.block 0; have p1 := cells_at hp6.block 1; have p2 := cells_at hp6.block 2; have p3 := cells_at hp6.block 3
          clear hbl hrk hp6
          go_upto_region 16 with (go_at_call 75; refine HW6.out.mono ?_; rintro e W7 ⟨v7, rfl, h7⟩; obtain ⟨a7, k7, rfl, _⟩ := h7.out.2.slice; have HCW := Lib.hid h7.out.2; replace H1 := Lib.hid (And.intro (H1.out.1.trans (same_below h7.out.1)) (H1.out.2.keep h7.out.1.block)); clear c0 c1 d0 d1 f0 f1 g0 g1; have c0 := cells_at H1.out.2.block 0; have c1 := cells_at H1.out.2.block 1; have d0 := cells_at H1.out.2.right.block 0; have d1 := cells_at H1.out.2.right.block 1; have f0 := thawed_at H1.out.2.block 0; have g0 := thawed_at H1.out.2.right.block 0; have g1 := thawed_at H1.out.2.right.block 1; have f1 := thawed_at H1.out.2.block 1; clear h7)
          clear p0 p1 p2 p3
          have hq := box_fst (.slice a7 LN.length k7) H1.out.1 H1.out.2
          have ho : ∀ k, k ≠ B → k ≠ B + 1 → (W7.setCell ⟨B, 0, none⟩ (.slice a7 LN.length k7)).heap[k]? = W7.heap[k]? := fun k h1 _ => heap_setCell_other _ _ _ _ h1
          have hz : W7.heap.size ≤ (W7.setCell ⟨B, 0, none⟩ (.slice a7 LN.length k7)).heap.size := by simp [World.setCell]
          generalize W7.setCell ⟨B, 0, none⟩ (.slice a7 LN.length k7) = W4 at hq ho hz ⊢
          replace H1 := hq
          have HO := Lib.hid (And.intro ho hz)
          clear c0 c1 d0 d1 f0 f1 g0 g1; have c0 := cells_at H1.out.2.block 0; have c1 := cells_at H1.out.2.block 1; have d0 := cells_at H1.out.2.right.block 0; have d1 := cells_at H1.out.2.right.block 1; have f0 := thawed_at H1.out.2.block 0; have g0 := thawed_at H1.out.2.right.block 0; have g1 := thawed_at H1.out.2.right.block 1; have f1 := thawed_at H1.out.2.block 1
          clear hq ho hz
          go_wp2
          have HF := box_res (.slice a7 LN.length k7) (.slice sa S.snaps.length sc) H1.out.1 H1.out.2
          have hbf := two_below HF.out.1 HF.out.2
          have hzf : W7.heap.size ≤ ((W4.setCell ⟨B + 1, 0, none⟩ (.slice a7 LN.length k7)).setCell ⟨B + 1, 1, none⟩ (.slice sa S.snaps.length sc)).heap.size := by have := HO.out.2; simpa [World.setCell] using this
          have hof : ∀ k, k ≠ B → k ≠ B + 1 → ((W4.setCell ⟨B + 1, 0, none⟩ (.slice a7 LN.length k7)).setCell ⟨B + 1, 1, none⟩ (.slice sa S.snaps.length sc)).heap[k]? = W7.heap[k]? := fun k h1 h2 => ((heap_setCell_other _ _ _ _ h2).trans (heap_setCell_other _ _ _ _ h2)).trans (HO.out.1 k h1 h2)
          try simp only [Exit.inBlock, Exit.then]
          refine bodyPost_ret (results_c2 rfl rfl rfl HF.out.2.right.block) rfl ?_
          rw [HR.out]
          refine ⟨_, _, rfl, hbf, ?_, ?_⟩
          · exact finG HPR.out HCW.out hzf hof
          · exact old_ref HS.out.1.s hbf

set_option maxRecDepth 20000 in
set_option maxHeartbeats 4000000 in
theorem rmap_any {ok : Nat → Prop} (vv vs : Value) (S : SpaceM) (vol b c : Int) (w : World) (hS : RefAt ok w vv vs S) (hwf : S.WF) :
    Calls Tryz.prog 31 #[.agg #[vv, vs], .int .i64 vol, .int .i64 b, .int .i64 c] w (RRes2 ok w (S.map vol b c)) := by
  obtain ⟨va, vc, rfl, hvc, hvm⟩ := hS.v.slice
  obtain ⟨sa, sc, rfl, hsc, hsm⟩ := hS.s.slice
  unfold maxLen at hvm hsm
  have HS := Lib.hid (And.intro hS hwf)
  have hvl := hwf.vlen
  have hsl := hwf.slen
  have H0 : Hid (Same w ((w.alloc (.cells #[.slice va S.vols.length vc, .slice sa S.snaps.length sc] TRS)).alloc (.cells #[.slice none 0 0, .slice none 0 0] TRS)) ∧ Sat ((w.alloc (.cells #[.slice va S.vols.length vc, .slice sa S.snaps.length sc] TRS)).alloc (.cells #[.slice none 0 0, .slice none 0 0] TRS)) (pts w.heap.size (.cells #[.slice va S.vols.length vc, .slice sa S.snaps.length sc] TRS (0, 0)) * (pts (w.heap.size + 1) (.cells #[.slice none 0 0, .slice none 0 0] TRS (0, 0)) * old w))) := boxes_new w _ _
  have HB := Lib.hid ((Below.refl w.heap.size w))
  clear hS hwf
  go_enter Tryz.func31, Tryz.ntmps31
  go_upto_region 1 with (fail)
  replace H1 := H0
  clear H0
  generalize ((w.alloc (.cells #[.slice va S.vols.length vc, .slice sa S.snaps.length sc] TRS)).alloc (.cells #[.slice none 0 0, .slice none 0 0] TRS)) = W1 at H1 ⊢
  generalize hBB : w.heap.size = B at H1 ⊢
  have c0 := cells_at H1.out.2.block 0; have c1 := cells_at H1.out.2.block 1; have d0 := cells_at H1.out.2.right.block 0; have d1 := cells_at H1.out.2.right.block 1; have f0 := thawed_at H1.out.2.block 0; have g0 := thawed_at H1.out.2.right.block 0; have g1 := thawed_at H1.out.2.right.block 1; have f1 := thawed_at H1.out.2.block 1

  have hb1 : Below w.heap.size w W1 := two_below H1.out.1 H1.out.2
  have HAT := Lib.hid (fun (W : World) (hb : Below w.heap.size w W) => rat_any (.slice va S.vols.length vc) S.vols vol W (HS.out.1.v.below hb))
  have HB1 := Lib.hid hb1
  clear hb1
  have HT := Lib.hid (fun W => rblk_b b W)
  rcases atP_cases S.vols vol with ⟨hn, hi⟩ | ⟨p, hp, hi, hlt, hid⟩
  · have HR := Lib.hid (show S.map vol b c = ⟨none, 0, 12⟩ by unfold SpaceM.map SpaceM.change; rw [hn])
    rw [hi] at HAT
    clear hn hi
    go_upto_region 3 with (go_at_call 51; refine (HAT.out _ HB1.out).mono ?_; rintro e W2 ⟨rfl, h2⟩; replace HB1 := Lib.hid (HB1.out.trans (h2.mono HB1.out.size)); replace H1 := Lib.hid (And.intro (H1.out.1.trans (same_below h2)) (H1.out.2.keep h2.block)); clear c0 c1 d0 d1 f0 f1 g0 g1; have c0 := cells_at H1.out.2.block 0; have c1 := cells_at H1.out.2.block 1; have d0 := cells_at H1.out.2.right.block 0; have d1 := cells_at H1.out.2.right.block 1; have f0 := thawed_at H1.out.2.block 0; have g0 := thawed_at H1.out.2.right.block 0; have g1 := thawed_at H1.out.2.right.block 1; have f1 := thawed_at H1.out.2.block 1; clear h2)
    go_wp2
    have HF := box_res (.slice none 0 0) (.slice none 0 0) H1.out.1 H1.out.2
    refine bodyPost_ret (results_c2 rfl rfl rfl HF.out.2.right.block) rfl ?_
    rw [HR.out]
    exact ⟨_, _, rfl, by subst hBB; exact two_below HF.out.1 HF.out.2, rfl, rfl⟩
  · rw [hi] at HAT
    cases hb : blkB b with
    | false =>
      rw [hb] at HT
      have HR := Lib.hid (show S.map vol b c = ⟨none, 0, 1⟩ by unfold SpaceM.map SpaceM.change; rw [hp]; simp [hb])
      generalize hk : atN S.vols vol = k at HAT
      have hneg : decide ((k : Int) < 0) = false := decide_eq_false (by omega)
      clear hp hi hlt hid hk
      go_upto_region 6 with (first | (go_at_call 51; refine (HAT.out _ HB1.out).mono ?_; rintro e W2 ⟨rfl, h2⟩; replace HB1 := Lib.hid (HB1.out.trans (h2.mono HB1.out.size)); replace H1 := Lib.hid (And.intro (H1.out.1.trans (same_below h2)) (H1.out.2.keep h2.block)); clear c0 c1 d0 d1 f0 f1 g0 g1; have c0 := cells_at H1.out.2.block 0; have c1 := cells_at H1.out.2.block 1; have d0 := cells_at H1.out.2.right.block 0; have d1 := cells_at H1.out.2.right.block 1; have f0 := thawed_at H1.out.2.block 0; have g0 := thawed_at H1.out.2.right.block 0; have g1 := thawed_at H1.out.2.right.block 1; have f1 := thawed_at H1.out.2.block 1; clear h2) | (go_at_call 76; refine (HT.out _).mono ?_; rintro e Wt ⟨rfl, ht⟩; replace HB1 := Lib.hid (HB1.out.trans (ht.mono HB1.out.size)); replace H1 := Lib.hid (And.intro (H1.out.1.trans (same_below ht)) (H1.out.2.keep ht.block)); clear c0 c1 d0 d1 f0 f1 g0 g1; have c0 := cells_at H1.out.2.block 0; have c1 := cells_at H1.out.2.block 1; have d0 := cells_at H1.out.2.right.block 0; have d1 := cells_at H1.out.2.right.block 1; have f0 := thawed_at H1.out.2.block 0; have g0 := thawed_at H1.out.2.right.block 0; have g1 := thawed_at H1.out.2.right.block 1; have f1 := thawed_at H1.out.2.block 1; clear ht))
      go_wp2
      have HF := box_res (.slice none 0 0) (.slice none 0 0) H1.out.1 H1.out.2
      refine bodyPost_ret (results_c2 rfl rfl rfl HF.out.2.right.block) rfl ?_
      rw [HR.out]
      exact ⟨_, _, rfl, by subst hBB; exact two_below HF.out.1 HF.out.2, rfl, rfl⟩
    | true =>
      rw [hb] at HT
      by_cases hc0 : c < 0
      · have hc0d : decide (c < 0) = true := decide_eq_true hc0
        have hck : chkB c = false := by unfold chkB; rw [decide_eq_false (by omega)]; rfl
        clear hc0
        have HR := Lib.hid (show S.map vol b c = ⟨none, 0, 1⟩ by unfold SpaceM.map SpaceM.change; rw [hp]; simp [hck])
        generalize hk : atN S.vols vol = k at HAT
        have hneg : decide ((k : Int) < 0) = false := decide_eq_false (by omega)
        clear hp hi hlt hid hk
        go_upto_region 6 with (first | (go_at_call 51; refine (HAT.out _ HB1.out).mono ?_; rintro e W2 ⟨rfl, h2⟩; replace HB1 := Lib.hid (HB1.out.trans (h2.mono HB1.out.size)); replace H1 := Lib.hid (And.intro (H1.out.1.trans (same_below h2)) (H1.out.2.keep h2.block)); clear c0 c1 d0 d1 f0 f1 g0 g1; have c0 := cells_at H1.out.2.block 0; have c1 := cells_at H1.out.2.block 1; have d0 := cells_at H1.out.2.right.block 0; have d1 := cells_at H1.out.2.right.block 1; have f0 := thawed_at H1.out.2.block 0; have g0 := thawed_at H1.out.2.right.block 0; have g1 := thawed_at H1.out.2.right.block 1; have f1 := thawed_at H1.out.2.block 1; clear h2) | (go_at_call 76; refine (HT.out _).mono ?_; rintro e Wt ⟨rfl, ht⟩; replace HB1 := Lib.hid (HB1.out.trans (ht.mono HB1.out.size)); replace H1 := Lib.hid (And.intro (H1.out.1.trans (same_below ht)) (H1.out.2.keep ht.block)); clear c0 c1 d0 d1 f0 f1 g0 g1; have c0 := cells_at H1.out.2.block 0; have c1 := cells_at H1.out.2.block 1; have d0 := cells_at H1.out.2.right.block 0; have d1 := cells_at H1.out.2.right.block 1; have f0 := thawed_at H1.out.2.block 0; have g0 := thawed_at H1.out.2.right.block 0; have g1 := thawed_at H1.out.2.right.block 1; have f1 := thawed_at H1.out.2.block 1; clear ht))
        go_wp2
        have HF := box_res (.slice none 0 0) (.slice none 0 0) H1.out.1 H1.out.2
        refine bodyPost_ret (results_c2 rfl rfl rfl HF.out.2.right.block) rfl ?_
        rw [HR.out]
        exact ⟨_, _, rfl, by subst hBB; exact two_below HF.out.1 HF.out.2, rfl, rfl⟩
      have hc0d : decide (c < 0) = false := decide_eq_false hc0
      by_cases hc1 : 2147483647 < c
      · have hc1d : decide ((2147483647 : Int) < c) = true := decide_eq_true hc1
        have hck : chkB c = false := by unfold chkB; rw [decide_eq_false (show ¬ c < 2147483648 by omega), Bool.and_false]
        clear hc0 hc1
        have HR := Lib.hid (show S.map vol b c = ⟨none, 0, 1⟩ by unfold SpaceM.map SpaceM.change; rw [hp]; simp [hck])
        generalize hk : atN S.vols vol = k at HAT
        have hneg : decide ((k : Int) < 0) = false := decide_eq_false (by omega)
        clear hp hi hlt hid hk
        go_upto_region 6 with (first | (go_at_call 51; refine (HAT.out _ HB1.out).mono ?_; rintro e W2 ⟨rfl, h2⟩; replace HB1 := Lib.hid (HB1.out.trans (h2.mono HB1.out.size)); replace H1 := Lib.hid (And.intro (H1.out.1.trans (same_below h2)) (H1.out.2.keep h2.block)); clear c0 c1 d0 d1 f0 f1 g0 g1; have c0 := cells_at H1.out.2.block 0; have c1 := cells_at H1.out.2.block 1; have d0 := cells_at H1.out.2.right.block 0; have d1 := cells_at H1.out.2.right.block 1; have f0 := thawed_at H1.out.2.block 0; have g0 := thawed_at H1.out.2.right.block 0; have g1 := thawed_at H1.out.2.right.block 1; have f1 := thawed_at H1.out.2.block 1; clear h2) | (go_at_call 76; refine (HT.out _).mono ?_; rintro e Wt ⟨rfl, ht⟩; replace HB1 := Lib.hid (HB1.out.trans (ht.mono HB1.out.size)); replace H1 := Lib.hid (And.intro (H1.out.1.trans (same_below ht)) (H1.out.2.keep ht.block)); clear c0 c1 d0 d1 f0 f1 g0 g1; have c0 := cells_at H1.out.2.block 0; have c1 := cells_at H1.out.2.block 1; have d0 := cells_at H1.out.2.right.block 0; have d1 := cells_at H1.out.2.right.block 1; have f0 := thawed_at H1.out.2.block 0; have g0 := thawed_at H1.out.2.right.block 0; have g1 := thawed_at H1.out.2.right.block 1; have f1 := thawed_at H1.out.2.block 1; clear ht))
        go_wp2
        have HF := box_res (.slice none 0 0) (.slice none 0 0) H1.out.1 H1.out.2
        refine bodyPost_ret (results_c2 rfl rfl rfl HF.out.2.right.block) rfl ?_
        rw [HR.out]
        exact ⟨_, _, rfl, by subst hBB; exact two_below HF.out.1 HF.out.2, rfl, rfl⟩
      have hc1d : decide ((2147483647 : Int) < c) = false := decide_eq_false hc1
      have hck : chkB c = true := by unfold chkB; rw [decide_eq_true (show 0 ≤ c by omega), decide_eq_true (show c < 2147483648 by omega)]; rfl
      clear hc0 hc1
      obtain ⟨hb1, hb2⟩ := SpaceM.blkB_iff.1 hb
      obtain ⟨bn, rfl⟩ := Int.eq_ofNat_of_zero_le hb1
      have hbn : bn < 4096 := by omega
      obtain ⟨LN, hLN⟩ : ∃ LN, LN = S.vols.set (atN S.vols vol) { p with m := upd p.m bn (some c) } := ⟨_, rfl⟩
      have HR := Lib.hid (show S.map vol (bn : Int) c = ⟨some { S with vols := LN }, 0, 0⟩ by unfold SpaceM.map SpaceM.change; rw [hp, hLN]; simp [hb, hck, Int.toNat_natCast])
      obtain ⟨g, pa, pc, rfl, hg, e0, e1, e2, e3, hrow⟩ := part_at HS.out.1.v hp
      have hwi := (fun (W W5 : World) (hb : Below w.heap.size w W) (na : Option Addr) (nc : Nat) (hr : RowK (fun b => W5.heap.size ≤ b) W (.slice na (items (upd p.m bn (some c))).length nc) (items (upd p.m bn (some c))).length ((items (upd p.m bn (some c))).flatMap refE)) => rwith_any (ok := newer (fun b => ok b ∧ b < w.heap.size) W5) (.slice (some ⟨g, 0, none⟩) S.vols.length vc) S.vols (atN S.vols vol) p.id p.tenant p.src (upd p.m bn (some c)) na (items (upd p.m bn (some c))).length nc W ((in_ref HS.out.1.v hb).weaken fun _ h _ => .inl h) (by omega) hlt (hr.weaken fun _ h _ => .inr h))
      rw [← hLN] at hwi
      have HWI := Lib.hid hwi
      clear hwi
      have HE := Lib.hid (And.intro hg (And.intro e0 (And.intro e1 (And.intro e2 e3))))
      have hcp := cnt_le p.m
      rw [← items_len] at hcp
      
      have hfu := map_items (m := p.m) (c := c) hbn
      rw [← hfu] at HWI
      have HROW := Lib.hid hrow
      generalize hk : atN S.vols vol = k at *
      generalize hits : items p.m = its at *
      have hneg : decide ((k : Int) < 0) = false := decide_eq_false (by omega)
      have hk63 : (k : Int) ≤ 64 := by omega
      clear hp hi hid hLN hk hb hb1 hb2 hck e0 e1 e2 e3 hrow hg hfu hits
      go_upto_region 7 with (first | (go_at_call 51; refine (HAT.out _ HB1.out).mono ?_; rintro e W2 ⟨rfl, h2⟩; replace HB1 := Lib.hid (HB1.out.trans (h2.mono HB1.out.size)); replace H1 := Lib.hid (And.intro (H1.out.1.trans (same_below h2)) (H1.out.2.keep h2.block)); clear c0 c1 d0 d1 f0 f1 g0 g1; have c0 := cells_at H1.out.2.block 0; have c1 := cells_at H1.out.2.block 1; have d0 := cells_at H1.out.2.right.block 0; have d1 := cells_at H1.out.2.right.block 1; have f0 := thawed_at H1.out.2.block 0; have g0 := thawed_at H1.out.2.right.block 0; have g1 := thawed_at H1.out.2.right.block 1; have f1 := thawed_at H1.out.2.block 1; clear h2) | (go_at_call 76; refine (HT.out _).mono ?_; rintro e Wt ⟨rfl, ht⟩; replace HB1 := Lib.hid (HB1.out.trans (ht.mono HB1.out.size)); replace H1 := Lib.hid (And.intro (H1.out.1.trans (same_below ht)) (H1.out.2.keep ht.block)); clear c0 c1 d0 d1 f0 f1 g0 g1; have c0 := cells_at H1.out.2.block 0; have c1 := cells_at H1.out.2.block 1; have d0 := cells_at H1.out.2.right.block 0; have d1 := cells_at H1.out.2.right.block 1; have f0 := thawed_at H1.out.2.block 0; have g0 := thawed_at H1.out.2.right.block 0; have g1 := thawed_at H1.out.2.right.block 1; have f1 := thawed_at H1.out.2.block 1; clear ht))
      have e0 := (HB1.out.cell (p := ⟨g, k * 4, none⟩) HE.out.1).trans HE.out.2.1
      have e1 := (HB1.out.cell (p := ⟨g, k * 4 + 1, none⟩) HE.out.1).trans HE.out.2.2.1
      have e2 := (HB1.out.cell (p := ⟨g, k * 4 + 2, none⟩) HE.out.1).trans HE.out.2.2.2.1
      have e3 := (HB1.out.cell (p := ⟨g, k * 4 + 3, none⟩) HE.out.1).trans HE.out.2.2.2.2
      go_upto_region 8 with (fail)
      have hbP := (Below.refl Wt.heap.size Wt).alloc (Nat.le_refl _) (.cells #[.int .i64 p.id, .int .i64 p.tenant, .int .i64 p.src, .slice pa its.length pc] TP)
      have hPQ := H1.out.2.alloc (.cells #[.int .i64 p.id, .int .i64 p.tenant, .int .i64 p.src, .slice pa its.length pc] TP)
      replace HB1 := Lib.hid (HB1.out.trans (hbP.mono HB1.out.size)); replace H1 := Lib.hid (And.intro (H1.out.1.trans (same_below hbP)) (H1.out.2.keep hbP.block)); clear c0 c1 d0 d1 f0 f1 g0 g1; have c0 := cells_at H1.out.2.block 0; have c1 := cells_at H1.out.2.block 1; have d0 := cells_at H1.out.2.right.block 0; have d1 := cells_at H1.out.2.right.block 1; have f0 := thawed_at H1.out.2.block 0; have g0 := thawed_at H1.out.2.right.block 0; have g1 := thawed_at H1.out.2.right.block 1; have f1 := thawed_at H1.out.2.block 1
      clear hbP e0 e1 e2 e3
      generalize Wt.alloc (.cells #[.int .i64 p.id, .int .i64 p.tenant, .int .i64 p.src, .slice pa its.length pc] TP) = W5 at H1 HB1 hPQ c0 c1 d0 d1 f0 f1 g0 g1 ⊢
      generalize Wt.heap.size = P at hPQ ⊢
      have HPQ := Lib.hid hPQ
      have p0 := cells_at hPQ.block 0; have p1 := cells_at hPQ.block 1; have p2 := cells_at hPQ.block 2; have p3 := cells_at hPQ.block 3
      clear hPQ
      obtain ⟨ti, hti, hz0, hts, hz2⟩ := info_parts infoMap2
      clear hc0d hc1d
      go_wp2
      go_loopw [13, 14, 15] (fun v d i wr => MpSt W5 its bn c v d i wr) (fun _ _ i _ => its.length - (intOf i).toNat)
      case atStart => exact ⟨⟨0, Nat.zero_le _, rfl, rfl, Same.refl _, ownAt_nil.2 (Sat.old W5)⟩⟩
      case round =>
        clear p0 p1 p2 p3 c0 c1 d0 d1 f0 f1 g0 g1
        obtain ⟨j, hj, rfl, rfl, hsm, hs⟩ := hrel.st
        clear hrel
        obtain ⟨ra, rc, rfl⟩ := ownAt_slice hs
        have hbw := hsm.below_of hs
        have hq5 := HPQ.out.keep hbw.block
        have p3 := cells_at hq5.block 3
        have q3 := thawed_at hq5.block 3
        have H9 := Lib.hid (And.intro hsm hs)
        have HBW := Lib.hid hbw
        have hfl : (mapS bn c (its.take j)).2.length ≤ 8192 := by
          have := mapS_len bn c (its.take j) (false, [])
          rw [List.length_take] at this
          unfold mapS
          simp only [List.length_nil] at this
          omega
        clear hsm hs hq5
        by_cases hlj : j < its.length
        · have hljd : decide ((j : Int) < (its.length : Int)) = true := decide_eq_true (by omega)
          have hji : (j : Int) ≤ 4096 := by omega
          obtain ⟨x, hx⟩ : ∃ x, its[j]? = some x := ⟨_, List.getElem?_eq_getElem hlj⟩
          obtain ⟨pg, rfl, hpg, e0, e1⟩ := ref_cells HROW.out.rows hx
          have hbW := HB1.out.trans (hbw.mono HB1.out.size)
          have HEC := Lib.hid (And.intro hpg (And.intro e0 e1))
          have e0 := (hbW.cell (p := ⟨pg, j * 2, none⟩) hpg).trans e0
          have e1 := (hbW.cell (p := ⟨pg, j * 2 + 1, none⟩) hpg).trans e1
          have hft := mapS_take (b := bn) (c := c) hx
          obtain ⟨xb, xc⟩ := x
          simp only at e0 e1
          generalize hS : mapS bn c (its.take j) = st at *
          obtain ⟨dn, out⟩ := st
          simp only at hfl H9 ⊢
          have HSX := Lib.hid hS
          cases dn with
          | true =>
            by_cases hxb : xb = bn
            · have hne : ((xb : Int) != (bn : Int)) = false := by simp [hxb]
              have HFT := Lib.hid (hft.trans (show _ = (true, out) from by simp [mapR, hxb]))
              clear hft hxb hx hbw hbW hS
              go_wp2
              refine ⟨⟨⟨j + 1, by omega, by rw [Int.natCast_add]; rfl, by rw [HFT.out], H9.out.1, by rw [HFT.out]; exact H9.out.2⟩⟩, by simp only [intOf]; omega⟩
            · have hne : ((xb : Int) != (bn : Int)) = true := by simp; omega
              have HFT := Lib.hid (hft.trans (show _ = (true, out ++ [(xb, xc)]) from by simp [mapR, hxb]))
              clear hft hxb hx hbw hbW hS
              go_wp2_with (at_builtin; refine wpList_append_ownAt rfl _ _ 69 100 rfl ti _ Tryz.underlying69 hti hz0 hts hz2 rfl (H9.out.2.allocKeep _) ([.int .i64 (xb : Int), .int .i64 xc]) rfl rfl rfl (news2 _ _ _ _) (by simp [Value.oneCell']) (by unfold maxLen; omega) (by omega) ?_; intro v2 w2 h2; obtain ⟨r2, k2, rfl⟩ := ownAt_slice h2.out.2)
              refine ⟨⟨⟨j + 1, by omega, by rw [Int.natCast_add]; rfl, by rw [HFT.out], (H9.out.1.alloc _).trans h2.out.1, by rw [HFT.out]; simp only [flat_ref, List.length_append]; exact h2.out.2⟩⟩, by simp only [intOf]; omega⟩
          | false =>
            by_cases hge : bn ≤ xb
            · have hged : decide ((bn : Int) ≤ (xb : Int)) = true := decide_eq_true (by omega)
              have hged2 : decide (bn ≤ xb) = true := decide_eq_true hge
              by_cases hxb : xb = bn
              · have hne : ((xb : Int) != (bn : Int)) = false := by simp [hxb]
                have HFT := Lib.hid (hft.trans (show _ = (true, out ++ [(bn, c)]) from by simp [mapR, hxb]))
                clear hft hxb hx hbw hbW hS
                go_upto_region 15 with (at_builtin; refine wpList_append_ownAt rfl _ _ 69 100 rfl ti _ Tryz.underlying69 hti hz0 hts hz2 rfl (H9.out.2.allocKeep _) ([.int .i64 (bn : Int), .int .i64 c]) rfl rfl rfl (news2 _ _ _ _) (by simp [Value.oneCell']) (by unfold maxLen; omega) (by omega) ?_; intro v2 w2 h2; obtain ⟨r2, k2, rfl⟩ := ownAt_slice h2.out.2)
                have hsm2 := (H9.out.1.alloc _).trans h2.out.1
                have hbw2 := hsm2.below_of h2.out.2
                have hbW2 := HB1.out.trans (hbw2.mono HB1.out.size)
                have hq5 := HPQ.out.keep hbw2.block
                clear p3 q3 e0 e1
                have p3 := cells_at hq5.block 3
                have e0 : w2.cell? ⟨pg, j * 2, none⟩ = some (.int .i64 (xb : Int)) := (hbW2.cell (p := ⟨pg, j * 2, none⟩) HEC.out.1).trans HEC.out.2.1
                have e1 : w2.cell? ⟨pg, j * 2 + 1, none⟩ = some (.int .i64 xc) := (hbW2.cell (p := ⟨pg, j * 2 + 1, none⟩) HEC.out.1).trans HEC.out.2.2
                clear hsm2 hbw2 hbW2 hq5
                go_wp2
                refine ⟨⟨⟨j + 1, by omega, by rw [Int.natCast_add]; rfl, by rw [HFT.out], (H9.out.1.alloc _).trans h2.out.1, by rw [HFT.out]; simp only [flat_ref, List.length_append]; exact h2.out.2⟩⟩, by simp only [intOf]; omega⟩
              · have hne : ((xb : Int) != (bn : Int)) = true := by simp; omega
                have HFT := Lib.hid (hft.trans (show _ = (true, out ++ [(bn, c)] ++ [(xb, xc)]) from by simp [mapR, hxb, hge]))
                clear hft hxb hx hbw hbW hS
                go_upto_region 15 with (at_builtin; refine wpList_append_ownAt rfl _ _ 69 100 rfl ti _ Tryz.underlying69 hti hz0 hts hz2 rfl (H9.out.2.allocKeep _) ([.int .i64 (bn : Int), .int .i64 c]) rfl rfl rfl (news2 _ _ _ _) (by simp [Value.oneCell']) (by unfold maxLen; omega) (by omega) ?_; intro v2 w2 h2; obtain ⟨r2, k2, rfl⟩ := ownAt_slice h2.out.2)
                have hsm2 := (H9.out.1.alloc _).trans h2.out.1
                have hbw2 := hsm2.below_of h2.out.2
                have hbW2 := HB1.out.trans (hbw2.mono HB1.out.size)
                have hq5 := HPQ.out.keep hbw2.block
                clear p3 q3 e0 e1
                have p3 := cells_at hq5.block 3
                have e0 : w2.cell? ⟨pg, j * 2, none⟩ = some (.int .i64 (xb : Int)) := (hbW2.cell (p := ⟨pg, j * 2, none⟩) HEC.out.1).trans HEC.out.2.1
                have e1 : w2.cell? ⟨pg, j * 2 + 1, none⟩ = some (.int .i64 xc) := (hbW2.cell (p := ⟨pg, j * 2 + 1, none⟩) HEC.out.1).trans HEC.out.2.2
                clear hsm2 hbw2 hbW2 hq5
                go_wp2_with (at_builtin; refine wpList_append_ownAt rfl _ _ 69 100 rfl ti _ Tryz.underlying69 hti hz0 hts hz2 rfl (h2.out.2.allocKeep _) ([.int .i64 (xb : Int), .int .i64 xc]) rfl rfl rfl (news2 _ _ _ _) (by simp [Value.oneCell']) (by unfold maxLen; omega) (by omega) ?_; intro v3 w3 h3; obtain ⟨r3, k3, rfl⟩ := ownAt_slice h3.out.2)
                refine ⟨⟨⟨j + 1, by omega, by rw [Int.natCast_add]; rfl, by rw [HFT.out], ((H9.out.1.alloc _).trans h2.out.1).trans ((Same.alloc (Same.refl _) _).trans h3.out.1), by rw [HFT.out]; simp only [flat_ref, List.length_append]; exact h3.out.2⟩⟩, by simp only [intOf]; omega⟩
            · have hged : decide ((bn : Int) ≤ (xb : Int)) = false := decide_eq_false (by omega)
              have hged2 : decide (bn ≤ xb) = false := decide_eq_false hge
              have hxb : ¬ xb = bn := by omega
              have hne : ((xb : Int) != (bn : Int)) = true := by simp; omega
              have HFT := Lib.hid (hft.trans (show _ = (false, out ++ [(xb, xc)]) from by simp [mapR, hxb, hge]))
              clear hft hxb hx hbw hbW hS
              go_wp2_with (at_builtin; refine wpList_append_ownAt rfl _ _ 69 100 rfl ti _ Tryz.underlying69 hti hz0 hts hz2 rfl (H9.out.2.allocKeep _) ([.int .i64 (xb : Int), .int .i64 xc]) rfl rfl rfl (news2 _ _ _ _) (by simp [Value.oneCell']) (by unfold maxLen; omega) (by omega) ?_; intro v2 w2 h2; obtain ⟨r2, k2, rfl⟩ := ownAt_slice h2.out.2)
              refine ⟨⟨⟨j + 1, by omega, by rw [Int.natCast_add]; rfl, by rw [HFT.out], (H9.out.1.alloc _).trans h2.out.1, by rw [HFT.out]; simp only [flat_ref, List.length_append]; exact h2.out.2⟩⟩, by simp only [intOf]; omega⟩
        · obtain rfl : j = its.length := by omega
          have hljd : decide ((its.length : Int) < (its.length : Int)) = false := decide_eq_false (by omega)
          rw [List.take_length] at H9 hfl ⊢
          generalize mapS bn c its = st at *
          obtain ⟨dn, out⟩ := st
          unfold mapE at HWI
          simp only at hfl H9 HWI ⊢
          clear hbw
          cases dn with
          | true =>
            rw [if_pos rfl] at HWI
            go_upto_region 21 with (fail)
            have hbl := box_list (x := .slice ra out.length rc) H1.out.1 HPQ.out HBW.out
            have hrk := (RowK.own (R := emp) (w := W5) (by rw [emp_star]; exact H9.out.2) (by omega)).keep (w' := wr.setCell ⟨P, 3, none⟩ (.slice ra out.length rc)) (by simp [World.setCell]) (fun b hb _ => heap_setCell_other _ _ _ _ (by have := HPQ.out.lt; simp only; omega))
            have hsz6 : W5.heap.size ≤ (wr.setCell ⟨P, 3, none⟩ (.slice ra out.length rc)).heap.size := by have := HBW.out.size; simpa [World.setCell] using this
            generalize wr.setCell ⟨P, 3, none⟩ (.slice ra out.length rc) = W6 at hbl hrk hsz6 ⊢
            have hp6 := hbl.out.2
            have HLT := Lib.hid H1.out.2.right.lt
            replace H1 := Lib.hid (And.intro hbl.out.1 hbl.out.2.right)
            have HB6 := Lib.hid (two_below H1.out.1 H1.out.2)
            have HW6 := Lib.hid (HWI.out W6 W5 HB6.out ra rc hrk)
            have HPR := Lib.hid (show ∀ b, newer (newer (fun b => ok b ∧ b < w.heap.size) W5) W6 b → b ≠ B ∧ b ≠ B + 1 ∧ newer ok w b from by
              intro b hb
              have := HLT.out
              rcases hb with (hb | hb) | hb
              · exact ⟨by omega, by omega, .inl hb.1⟩
              · exact ⟨by omega, by omega, .inr (by omega)⟩
              · exact ⟨by omega, by omega, .inr (by omega)⟩)
            have c0 := cells_at H1.out.2.block 0; have c1 := cells_at H1.out.2.block 1; have d0 := cells_at H1.out.2.right.block 0; have d1 := cells_at H1.out.2.right.block 1; have f0 := thawed_at H1.out.2.block 0; have g0 := thawed_at H1.out.2.right.block 0; have g1 := thawed_at H1.out.2.right.block 1; have f1 := thawed_at H1.out.2.block 1
            clear p3 q3
            have p0 := cells_at hp6.block 0; have p1 := cells_at hp6.block 1; have p2 := cells_at hp6.block 2; have p3 := cells_at hp6.block 3
            clear hbl hrk hp6
            go_upto_region 22 with (go_at_call 75; refine HW6.out.mono ?_; rintro e W7 ⟨v7, rfl, h7⟩; obtain ⟨a7, k7, rfl, _⟩ := h7.out.2.slice; have HCW := Lib.hid h7.out.2; replace H1 := Lib.hid (And.intro (H1.out.1.trans (same_below h7.out.1)) (H1.out.2.keep h7.out.1.block)); clear c0 c1 d0 d1 f0 f1 g0 g1; have c0 := cells_at H1.out.2.block 0; have c1 := cells_at H1.out.2.block 1; have d0 := cells_at H1.out.2.right.block 0; have d1 := cells_at H1.out.2.right.block 1; have f0 := thawed_at H1.out.2.block 0; have g0 := thawed_at H1.out.2.right.block 0; have g1 := thawed_at H1.out.2.right.block 1; have f1 := thawed_at H1.out.2.block 1; clear h7)
            clear p0 p1 p2 p3
            have hq := box_fst (.slice a7 LN.length k7) H1.out.1 H1.out.2
            have ho : ∀ k, k ≠ B → k ≠ B + 1 → (W7.setCell ⟨B, 0, none⟩ (.slice a7 LN.length k7)).heap[k]? = W7.heap[k]? := fun k h1 _ => heap_setCell_other _ _ _ _ h1
            have hz : W7.heap.size ≤ (W7.setCell ⟨B, 0, none⟩ (.slice a7 LN.length k7)).heap.size := by simp [World.setCell]
            generalize W7.setCell ⟨B, 0, none⟩ (.slice a7 LN.length k7) = W4 at hq ho hz ⊢
            replace H1 := hq
            have HO := Lib.hid (And.intro ho hz)
            clear c0 c1 d0 d1 f0 f1 g0 g1; have c0 := cells_at H1.out.2.block 0; have c1 := cells_at H1.out.2.block 1; have d0 := cells_at H1.out.2.right.block 0; have d1 := cells_at H1.out.2.right.block 1; have f0 := thawed_at H1.out.2.block 0; have g0 := thawed_at H1.out.2.right.block 0; have g1 := thawed_at H1.out.2.right.block 1; have f1 := thawed_at H1.out.2.block 1
            clear hq ho hz
            go_wp2
            have HF := box_res (.slice a7 LN.length k7) (.slice sa S.snaps.length sc) H1.out.1 H1.out.2
            have hbf := two_below HF.out.1 HF.out.2
            have hzf : W7.heap.size ≤ ((W4.setCell ⟨B + 1, 0, none⟩ (.slice a7 LN.length k7)).setCell ⟨B + 1, 1, none⟩ (.slice sa S.snaps.length sc)).heap.size := by have := HO.out.2; simpa [World.setCell] using this
            have hof : ∀ k, k ≠ B → k ≠ B + 1 → ((W4.setCell ⟨B + 1, 0, none⟩ (.slice a7 LN.length k7)).setCell ⟨B + 1, 1, none⟩ (.slice sa S.snaps.length sc)).heap[k]? = W7.heap[k]? := fun k h1 h2 => ((heap_setCell_other _ _ _ _ h2).trans (heap_setCell_other _ _ _ _ h2)).trans (HO.out.1 k h1 h2)
            try simp only [Exit.inBlock, Exit.then]
            refine bodyPost_ret (results_c2 rfl rfl rfl HF.out.2.right.block) rfl ?_
            rw [HR.out]
            refine ⟨_, _, rfl, hbf, ?_, ?_⟩
            · exact finG HPR.out HCW.out hzf hof
            · exact old_ref HS.out.1.s hbf
          | false =>
            rw [if_neg (by simp)] at HWI
            go_upto_region 20 with (at_builtin; refine wpList_append_ownAt rfl _ _ 69 100 rfl ti _ Tryz.underlying69 hti hz0 hts hz2 rfl (H9.out.2.allocKeep _) ([.int .i64 (bn : Int), .int .i64 c]) rfl rfl rfl (news2 _ _ _ _) (by simp [Value.oneCell']) (by unfold maxLen; omega) (by omega) ?_; intro v2 w2 h2; obtain ⟨r2, k2, rfl⟩ := ownAt_slice h2.out.2)
            have hsm2 := (H9.out.1.alloc _).trans h2.out.1
            have hbw2 := hsm2.below_of h2.out.2
            replace HBW := Lib.hid hbw2
            have hq5 := HPQ.out.keep hbw2.block
            clear p3 q3
            have p3 := cells_at hq5.block 3
            have q3 := thawed_at hq5.block 3
            replace H9 : Hid (Same W5 w2 ∧ Sat w2 (ownAt 100 2 (.slice r2 (out ++ [(bn, c)]).length k2) (out ++ [(bn, c)]).length ((out ++ [(bn, c)]).flatMap refE) * old W5)) := ⟨hsm2, by rw [flat_ref, List.length_append]; exact h2.out.2⟩
            clear hq5 hbw2 hsm2 h2
            rw [show out.length + 1 = (out ++ [(bn, c)]).length by simp]
            generalize out ++ [(bn, c)] = N at H9 HWI ⊢
            go_upto_region 21 with (fail)
            have hbl := box_list (x := .slice r2 N.length k2) H1.out.1 HPQ.out HBW.out
            have hrk := (RowK.own (R := emp) (w := W5) (by rw [emp_star]; exact H9.out.2) (by omega)).keep (w' := w2.setCell ⟨P, 3, none⟩ (.slice r2 N.length k2)) (by simp [World.setCell]) (fun b hb _ => heap_setCell_other _ _ _ _ (by have := HPQ.out.lt; simp only; omega))
            have hsz6 : W5.heap.size ≤ (w2.setCell ⟨P, 3, none⟩ (.slice r2 N.length k2)).heap.size := by have := HBW.out.size; simpa [World.setCell] using this
            generalize w2.setCell ⟨P, 3, none⟩ (.slice r2 N.length k2) = W6 at hbl hrk hsz6 ⊢
            have hp6 := hbl.out.2
            have HLT := Lib.hid H1.out.2.right.lt
            replace H1 := Lib.hid (And.intro hbl.out.1 hbl.out.2.right)
            have HB6 := Lib.hid (two_below H1.out.1 H1.out.2)
            have HW6 := Lib.hid (HWI.out W6 W5 HB6.out r2 k2 hrk)
            have HPR := Lib.hid (show ∀ b, newer (newer (fun b => ok b ∧ b < w.heap.size) W5) W6 b → b ≠ B ∧ b ≠ B + 1 ∧ newer ok w b from by
              intro b hb
              have := HLT.out
              rcases hb with (hb | hb) | hb
              · exact ⟨by omega, by omega, .inl hb.1⟩
              · exact ⟨by omega, by omega, .inr (by omega)⟩
              · exact ⟨by omega, by omega, .inr (by omega)⟩)
            have c0 := cells_at H1.out.2.block 0; have c1 := cells_at H1.out.2.block 1; have d0 := cells_at H1.out.2.right.block 0; have d1 := cells_at H1.out.2.right.block 1; have f0 := thawed_at H1.out.2.block 0; have g0 := thawed_at H1.out.2.right.block 0; have g1 := thawed_at H1.out.2.right.block 1; have f1 := thawed_at H1.out.2.block 1
            clear p3 q3
            have p0 := cells_at hp6.block 0; have p1 := cells_at hp6.block 1; have p2 := cells_at hp6.block 2; have p3 := cells_at hp6.block 3
            clear hbl hrk hp6
            go_upto_region 22 with (go_at_call 75; refine HW6.out.mono ?_; rintro e W7 ⟨v7, rfl, h7⟩; obtain ⟨a7, k7, rfl, _⟩ := h7.out.2.slice; have HCW := Lib.hid h7.out.2; replace H1 := Lib.hid (And.intro (H1.out.1.trans (same_below h7.out.1)) (H1.out.2.keep h7.out.1.block)); clear c0 c1 d0 d1 f0 f1 g0 g1; have c0 := cells_at H1.out.2.block 0; have c1 := cells_at H1.out.2.block 1; have d0 := cells_at H1.out.2.right.block 0; have d1 := cells_at H1.out.2.right.block 1; have f0 := thawed_at H1.out.2.block 0; have g0 := thawed_at H1.out.2.right.block 0; have g1 := thawed_at H1.out.2.right.block 1; have f1 := thawed_at H1.out.2.block 1; clear h7)
            clear p0 p1 p2 p3
            have hq := box_fst (.slice a7 LN.length k7) H1.out.1 H1.out.2
            have ho : ∀ k, k ≠ B → k ≠ B + 1 → (W7.setCell ⟨B, 0, none⟩ (.slice a7 LN.length k7)).heap[k]? = W7.heap[k]? := fun k h1 _ => heap_setCell_other _ _ _ _ h1
            have hz : W7.heap.size ≤ (W7.setCell ⟨B, 0, none⟩ (.slice a7 LN.length k7)).heap.size := by simp [World.setCell]
            generalize W7.setCell ⟨B, 0, none⟩ (.slice a7 LN.length k7) = W4 at hq ho hz ⊢
            replace H1 := hq
            have HO := Lib.hid (And.intro ho hz)
            clear c0 c1 d0 d1 f0 f1 g0 g1; have c0 := cells_at H1.out.2.block 0; have c1 := cells_at H1.out.2.block 1; have d0 := cells_at H1.out.2.right.block 0; have d1 := cells_at H1.out.2.right.block 1; have f0 := thawed_at H1.out.2.block 0; have g0 := thawed_at H1.out.2.right.block 0; have g1 := thawed_at H1.out.2.right.block 1; have f1 := thawed_at H1.out.2.block 1
            clear hq ho hz
            go_wp2
            have HF := box_res (.slice a7 LN.length k7) (.slice sa S.snaps.length sc) H1.out.1 H1.out.2
            have hbf := two_below HF.out.1 HF.out.2
            have hzf : W7.heap.size ≤ ((W4.setCell ⟨B + 1, 0, none⟩ (.slice a7 LN.length k7)).setCell ⟨B + 1, 1, none⟩ (.slice sa S.snaps.length sc)).heap.size := by have := HO.out.2; simpa [World.setCell] using this
            have hof : ∀ k, k ≠ B → k ≠ B + 1 → ((W4.setCell ⟨B + 1, 0, none⟩ (.slice a7 LN.length k7)).setCell ⟨B + 1, 1, none⟩ (.slice sa S.snaps.length sc)).heap[k]? = W7.heap[k]? := fun k h1 h2 => ((heap_setCell_other _ _ _ _ h2).trans (heap_setCell_other _ _ _ _ h2)).trans (HO.out.1 k h1 h2)
            try simp only [Exit.inBlock, Exit.then]
            refine bodyPost_ret (results_c2 rfl rfl rfl HF.out.2.right.block) rfl ?_
            rw [HR.out]
            refine ⟨_, _, rfl, hbf, ?_, ?_⟩
            · exact finG HPR.out HCW.out hzf hof
            · exact old_ref HS.out.1.s hbf
end Go.Proofs.YtednjhlkhecihaaGreatDoor
