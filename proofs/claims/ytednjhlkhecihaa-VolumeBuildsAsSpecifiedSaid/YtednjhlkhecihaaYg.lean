/- ref27 parts: a list of contents as parts. Printed by ye.py. -/
import Derived.Test.YtednjhlkhecihaaYe
namespace Go.Proofs.Ytednjhlkhecihaa
open Go.RowKit Go.Vol Go.Sl

set_option maxRecDepth 20000 in
set_option maxHeartbeats 8000000 in
theorem parts_f (v : Value) (l : List ElC) (most : Int) (w : World) (hc : CntL w v l) (hn : l.length ≤ 20) (hmx : ∀ x ∈ l, x.1.maps.length ≤ 40) :
    Calls Try.prog 63 #[v, .int .i64 most, .bool false] w fun e w' => Hid (Below w.heap.size w w' ∧ PtOut false most l e w') := by
  obtain ⟨ao, cap, rfl, _⟩ := id hc.row
  have HV := Lib.hid (And.intro hc hmx)
  obtain ⟨ti, hti, hz0, hts, hz2⟩ := info_parts info_TP
  have HT := Lib.hid (And.intro hti (And.intro hz0 (And.intro hts hz2)))
  clear hc hmx hti hz0 hts hz2
  go_enter Try.func63, Try.ntmps63
  go_wp2
  go_loopw [8, 9] (fun v i wr => PtSt w false most l v i wr) (fun _ i _ => l.length - (intOf i).toNat)
  case atStart => exact ⟨⟨0, -1, [], Nat.zero_le _, rfl, Iff.rfl, rfl, rfl, fun _ x hx => absurd hx (by simp), fun x hx => absurd hx (by simp), Same.refl _, ownAt_nil.2 (Sat.old w)⟩⟩
  case round =>
    obtain ⟨k, z, lp, hk, rfl, hvi, hpv, hlp, hso, hmr, hsm, hs⟩ := hrel.st
    clear hrel
    obtain ⟨ra, rc, rfl⟩ := ownAt_slice hs
    have hbw := hsm.below_of hs
    have HO := Lib.hid (And.intro hsm hs)
    have HLD := Lib.hid (And.intro hlp (And.intro hso hmr))
    clear hsm hs hlp hso hmr
    by_cases hlt : k < l.length
    · have hltd : decide ((k : Int) < (l.length : Int)) = true := decide_eq_true (by omega)
      have hki : (k : Int) ≤ 20 := by omega
      obtain ⟨x, hx⟩ : ∃ x, l[k]? = some x := ⟨_, List.getElem?_eq_getElem hlt⟩
      have hxl : (l.map Prod.fst)[k]? = some x.1 := by rw [List.getElem?_map, hx]; rfl
      have hrow := HV.out.1.maps x (List.mem_of_getElem? hx)
      have hcp := HV.out.2 x (List.mem_of_getElem? hx)
      obtain ⟨xa, xc, hxs, _⟩ := id hrow
      obtain ⟨g, off, rfl, hg, e0, e1, e2, e3⟩ := c_cells HV.out.1.row hx
      have e0 := (hbw.cell (p := ⟨g, off + k * 4, none⟩) hg).trans e0
      have e1 := (hbw.cell (p := ⟨g, off + k * 4 + 1, none⟩) hg).trans e1
      have e2 := (hbw.cell (p := ⟨g, off + k * 4 + 2, none⟩) hg).trans e2
      have e3 := (hbw.cell (p := ⟨g, off + k * 4 + 3, none⟩) hg).trans e3
      have hvd := validC_drop hvi hxl
      obtain ⟨⟨xi, xt, xs, its⟩, xv⟩ := x
      simp only at hxs hcp
      subst hxs
      simp only at e0 e1 e2 e3 hrow hvd
      have HTN := Lib.hid (fun W => rtenant_any xt W)
      have HX := Lib.hid (And.intro hx hvd)
      have HROW := Lib.hid hrow
      have HBW := Lib.hid hbw
      clear hx hxl hvi hrow hvd
      go_upto_region 6 with (fail)
      have hb2 := (Below.refl wr.heap.size wr).alloc (Nat.le_refl _) (.cells #[.int .i64 xi, .int .i64 xt, .int .i64 xs, .slice xa its.length xc] 69)
      have hc2 := heap_alloc_new wr (.cells #[.int .i64 xi, .int .i64 xt, .int .i64 xs, .slice xa its.length xc] 69)
      have hbc := hbw.trans (hb2.mono hbw.size)
      generalize wr.alloc (.cells #[.int .i64 xi, .int .i64 xt, .int .i64 xs, .slice xa its.length xc] 69) = W2 at hb2 hc2 hbc ⊢
      have H2a := Lib.hid hb2
      clear hb2
      generalize wr.heap.size = C at hc2 ⊢
      have q0 := cells_at hc2 0; have q1 := cells_at hc2 1; have q2 := cells_at hc2 2; have q3 := cells_at hc2 3
      have H2 := Lib.hid (And.intro H2a.out (And.intro hc2 trivial))
      have HBC := Lib.hid hbc
      clear hc2 hbc H2a e0 e1 e2 e3 hbw hg
      cases k with
      | zero =>
        have hk0 : decide ((0 : Int) < ((0 : Nat) : Int)) = false := by decide
        have hz1 : z = -1 := hpv
        by_cases hf0 : tenB xt = false
        · rw [hf0] at HTN
          skip
          have HN := Lib.hid (show ¬ validP false most l from fun h => HX.out.2.2 (fun h2 => by have := SpaceM.tenB_iff.2 h2.2.2.1; simp only at this; rw [hf0] at this; cases this) h.1)
          clear hf0
          go_upto_region 7 with (go_at_call 85; refine (HTN.out _).mono ?_; rintro e w' ⟨rfl, hww⟩; rw [hww]; clear hww w')
          go_quiet (fail)
          go_wp2
          go_ret2
          exact ⟨HBC.out.drewN _, .inr ⟨HN.out, rfl⟩⟩
        have hf1 : tenB xt = true := by simpa using hf0
        clear hf0
        rw [hf1] at HTN
        have ht12 := SpaceM.tenB_iff.1 hf1
        by_cases hf2 : xi < 0
        · have t1 : decide (xi < 0) = true := decide_eq_true hf2
          have HN := Lib.hid (show ¬ validP false most l from fun h => HX.out.2.2 (fun h2 => by have := h2.1; simp only at this; omega) h.1)
          clear hf1 hf2 ht12
          go_upto_region 7 with (go_at_call 85; refine (HTN.out _).mono ?_; rintro e w' ⟨rfl, hww⟩; rw [hww]; clear hww w')
          go_quiet (fail)
          go_wp2
          go_ret2
          exact ⟨HBC.out.drewN _, .inr ⟨HN.out, rfl⟩⟩
        have t1 : decide (xi < 0) = false := decide_eq_false hf2
        by_cases hf3 : most ≤ xi
        · have t2 : decide (most ≤ xi) = true := decide_eq_true hf3
          have HN := Lib.hid (show ¬ validP false most l from fun h => HX.out.2.2 (fun h2 => by have := h2.2.1; simp only at this; omega) h.1)
          clear hf1 hf2 hf3 ht12
          go_upto_region 7 with (go_at_call 85; refine (HTN.out _).mono ?_; rintro e w' ⟨rfl, hww⟩; rw [hww]; clear hww w')
          go_quiet (fail)
          go_wp2
          go_ret2
          exact ⟨HBC.out.drewN _, .inr ⟨HN.out, rfl⟩⟩
        have t2 : decide (most ≤ xi) = false := decide_eq_false hf3
        have hf4 : ¬ xi ≤ z := by omega
        have HSR := Lib.hid (show false = true → 0 ≤ xs ∧ xs < 64 from fun h => by cases h)
        have HPO := Lib.hid (show z < xi ∧ xi < most ∧ (0 ≤ xt ∧ xt < 16) from ⟨by omega, by omega, ht12⟩)
        have HXI := Lib.hid (show 0 ≤ xi by omega)
        clear hf1 hf2 hf3 hf4 ht12
        go_upto_region 7 with (go_at_call 85; refine (HTN.out _).mono ?_; rintro e w' ⟨rfl, hww⟩; rw [hww]; clear hww w')
        go_quiet (fail)
        go_wp2
        clear t1 t2 hz1  hk0 q0 q1 q2 q3
        go_loopw [12] (fun i wr => PmSt W2 its i wr) (fun i _ => its.length - (intOf i).toNat)
        case atStart => exact ⟨⟨0, -1, Nat.zero_le _, rfl, Iff.rfl, rfl, Below.drewN (Below.refl _ _) _⟩⟩
        case round =>
          obtain ⟨j, n, hj, rfl, hvmi, hprev, hb2w⟩ := hrel.st
          clear hrel
          have hbW := HBC.out.trans (hb2w.mono HBC.out.size)
          have hcw := (hb2w.block C (Array.getElem?_eq_some_iff.1 H2.out.2.1).1).trans H2.out.2.1
          have q3 := cells_at hcw 3
          have HB2 := Lib.hid (And.intro hb2w (And.intro hcw hbW))
          by_cases hlj : j < its.length
          · have hljd : decide ((j : Int) < (its.length : Int)) = true := decide_eq_true (by omega)
            have hji : (j : Int) ≤ 40 := by omega
            obtain ⟨y, hy⟩ : ∃ y, its[j]? = some y := ⟨_, List.getElem?_eq_getElem hlj⟩
            obtain ⟨mg, mo, rfl, hmg, y0, y1⟩ := m_cells HROW.out hy
            have y0 := (hbW.cell (p := ⟨mg, mo + j * 2, none⟩) hmg).trans y0
            have y1 := (hbW.cell (p := ⟨mg, mo + j * 2 + 1, none⟩) hmg).trans y1
            have HVM := Lib.hid (validM_drop hvmi hy)
            have HBAD := Lib.hid (fun (h : ¬ validM (-1) its) (h2 : validP false most l) => HX.out.2.2 (fun h3 => h h3.2.2.2) h2.1)
            obtain ⟨yb, yc⟩ := y
            simp only at y0 y1 HVM
            have HY := Lib.hid hy
            have HBK := Lib.hid (fun W => rblock_any yb W)
            clear hvmi hy
            go_upto_region 13 with (fail)
            have hb4 := (Below.refl wr.heap.size wr).alloc (Nat.le_refl _) (.cells #[.int .i64 yb, .int .i64 yc] 107)
            have hm4 := heap_alloc_new wr (.cells #[.int .i64 yb, .int .i64 yc] 107)
            have q3 := (hb4.cell (p := ⟨C, 3, none⟩) (Array.getElem?_eq_some_iff.1 hcw).1).trans q3
            replace hbW := hbW.trans (hb4.mono hbW.size)
            have hb24 := hb2w.trans (hb4.mono hb2w.size)
            generalize wr.alloc (.cells #[.int .i64 yb, .int .i64 yc] 107) = W4 at hb4 hm4 q3 hbW hb24 ⊢
            have hb4' := hb4
            clear hb4
            generalize wr.heap.size = M at hb4' hm4 ⊢
            have m0 := cells_at hm4 0; have m1 := cells_at hm4 1
            have HBJ := Lib.hid hbW
            have HB4 := Lib.hid hb24
            clear hb4' hm4 hb24 hb2w hcw y0 y1
            cases j with
            | zero =>
              have hj0 : decide ((0 : Int) < ((0 : Nat) : Int)) = false := by decide
              have hpz : n = -1 := hprev
              by_cases hf0 : blkB yb = false
              · rw [hf0] at HBK
                skip
                have HN := Lib.hid (show ¬ validP false most l from fun h => HBAD.out (HVM.out.2 (fun h2 => by have := SpaceM.blkB_iff.2 h2.2.1; rw [hf0] at this; cases this)) h)
                clear hf0
                go_upto_region 14 with (go_at_call 91; refine (HBK.out _).mono ?_; rintro e w' ⟨rfl, hww⟩; rw [hww]; clear hww w')
                go_quiet (fail)
                go_wp2
                go_ret2
                exact ⟨HBJ.out.drewN _, .inr ⟨HN.out, rfl⟩⟩
              have hf1 : blkB yb = true := by simpa using hf0
              rw [hf1] at HBK
              have hb12 := SpaceM.blkB_iff.1 hf1
              clear hf0
              have hf2 : ¬ yb ≤ n := by omega
              by_cases hf3 : yc < 0
              · have t3 : decide (yc < 0) = true := decide_eq_true hf3
                have HN := Lib.hid (show ¬ validP false most l from fun h => HBAD.out (HVM.out.2 (fun h2 => by omega)) h)
                clear hf1 hf2 hf3 hb12
                go_upto_region 14 with (go_at_call 91; refine (HBK.out _).mono ?_; rintro e w' ⟨rfl, hww⟩; rw [hww]; clear hww w')
                go_quiet (fail)
                go_wp2
                go_ret2
                exact ⟨HBJ.out.drewN _, .inr ⟨HN.out, rfl⟩⟩
              have t3 : decide (yc < 0) = false := decide_eq_false hf3
              by_cases hf4 : (2147483647 : Int) < yc
              · have t4 : decide ((2147483647 : Int) < yc) = true := decide_eq_true hf4
                have HN := Lib.hid (show ¬ validP false most l from fun h => HBAD.out (HVM.out.2 (fun h2 => by omega)) h)
                clear hf1 hf2 hf3 hf4 hb12
                go_upto_region 14 with (go_at_call 91; refine (HBK.out _).mono ?_; rintro e w' ⟨rfl, hww⟩; rw [hww]; clear hww w')
                go_quiet (fail)
                go_wp2
                go_ret2
                exact ⟨HBJ.out.drewN _, .inr ⟨HN.out, rfl⟩⟩
              have t4 : decide ((2147483647 : Int) < yc) = false := decide_eq_false hf4
              have HNX := Lib.hid (And.intro (HVM.out.1 ⟨by omega, hb12, by omega, by omega⟩) (show PrevM its (0 + 1) yb from ⟨(yb, yc), HY.out, rfl⟩))
              clear hf1 hf2 hf3 hf4 hb12
              go_upto_region 14 with (go_at_call 91; refine (HBK.out _).mono ?_; rintro e w' ⟨rfl, hww⟩; rw [hww]; clear hww w')
              go_quiet (fail)
              go_wp2
              refine ⟨⟨⟨0 + 1, yb, by omega, by rw [Int.natCast_add]; rfl, HNX.out.1, HNX.out.2, HB4.out.drewN _⟩⟩, by simp only [intOf]; omega⟩
            | succ j =>
              obtain ⟨pv, hpv, hpz⟩ := hprev
              obtain ⟨mg2, mo2, hme, hmg2, z0, _⟩ := m_cells HROW.out hpv
              simp only [Option.some.injEq, Addr.mk.injEq, and_true] at hme
              obtain ⟨rfl, rfl⟩ := hme
              rw [hpz] at z0
              have z0 := (hbW.cell (p := ⟨mg, mo + j * 2, none⟩) hmg2).trans z0
              have hj0 : decide ((0 : Int) < ((j + 1 : Nat) : Int)) = true := decide_eq_true (by omega)
              have hjm : ((j + 1 : Nat) : Int) - 1 = (j : Int) := by omega
              by_cases hf0 : blkB yb = false
              · rw [hf0] at HBK
                skip
                have HN := Lib.hid (show ¬ validP false most l from fun h => HBAD.out (HVM.out.2 (fun h2 => by have := SpaceM.blkB_iff.2 h2.2.1; rw [hf0] at this; cases this)) h)
                clear hf0
                go_upto_region 14 with (go_at_call 91; refine (HBK.out _).mono ?_; rintro e w' ⟨rfl, hww⟩; rw [hww]; clear hww w')
                go_quiet (fail)
                go_wp2
                go_ret2
                exact ⟨HBJ.out.drewN _, .inr ⟨HN.out, rfl⟩⟩
              have hf1 : blkB yb = true := by simpa using hf0
              rw [hf1] at HBK
              have hb12 := SpaceM.blkB_iff.1 hf1
              clear hf0
              by_cases hf2 : yb ≤ n
              · have t2 : decide (yb ≤ n) = true := decide_eq_true hf2
                have HN := Lib.hid (show ¬ validP false most l from fun h => HBAD.out (HVM.out.2 (fun h2 => by omega)) h)
                clear hf1 hf2
                go_upto_region 14 with (go_at_call 91; refine (HBK.out _).mono ?_; rintro e w' ⟨rfl, hww⟩; rw [hww]; clear hww w')
                go_quiet (fail)
                go_wp2
                go_ret2
                exact ⟨HBJ.out.drewN _, .inr ⟨HN.out, rfl⟩⟩
              have t2 : decide (yb ≤ n) = false := decide_eq_false hf2
              by_cases hf3 : yc < 0
              · have t3 : decide (yc < 0) = true := decide_eq_true hf3
                have HN := Lib.hid (show ¬ validP false most l from fun h => HBAD.out (HVM.out.2 (fun h2 => by omega)) h)
                clear hf1 hf2 hf3 hb12
                go_upto_region 14 with (go_at_call 91; refine (HBK.out _).mono ?_; rintro e w' ⟨rfl, hww⟩; rw [hww]; clear hww w')
                go_quiet (fail)
                go_wp2
                go_ret2
                exact ⟨HBJ.out.drewN _, .inr ⟨HN.out, rfl⟩⟩
              have t3 : decide (yc < 0) = false := decide_eq_false hf3
              by_cases hf4 : (2147483647 : Int) < yc
              · have t4 : decide ((2147483647 : Int) < yc) = true := decide_eq_true hf4
                have HN := Lib.hid (show ¬ validP false most l from fun h => HBAD.out (HVM.out.2 (fun h2 => by omega)) h)
                clear hf1 hf2 hf3 hf4 hb12
                go_upto_region 14 with (go_at_call 91; refine (HBK.out _).mono ?_; rintro e w' ⟨rfl, hww⟩; rw [hww]; clear hww w')
                go_quiet (fail)
                go_wp2
                go_ret2
                exact ⟨HBJ.out.drewN _, .inr ⟨HN.out, rfl⟩⟩
              have t4 : decide ((2147483647 : Int) < yc) = false := decide_eq_false hf4
              have HNX := Lib.hid (And.intro (HVM.out.1 ⟨by omega, hb12, by omega, by omega⟩) (show PrevM its (j + 1 + 1) yb from ⟨(yb, yc), HY.out, rfl⟩))
              clear hf1 hf2 hf3 hf4 hb12
              go_upto_region 14 with (go_at_call 91; refine (HBK.out _).mono ?_; rintro e w' ⟨rfl, hww⟩; rw [hww]; clear hww w')
              go_quiet (fail)
              go_wp2
              refine ⟨⟨⟨j + 1 + 1, yb, by omega, by rw [Int.natCast_add]; rfl, HNX.out.1, HNX.out.2, HB4.out.drewN _⟩⟩, by simp only [intOf]; omega⟩
          · obtain rfl : j = its.length := by omega
            have hljd : decide ((its.length : Int) < (its.length : Int)) = false := decide_eq_false (by omega)
            have hvM : validM (-1) its := hvmi.2 validM_end
            have HVF := Lib.hid hvM
            have HNX := Lib.hid (HX.out.2.1 ⟨HPO.out.1, HPO.out.2.1, HPO.out.2.2, hvM⟩)
            clear hvmi hprev hvM hb2w hbW q3
            have q0 := cells_at hcw 0; have q1 := cells_at hcw 1; have q2 := cells_at hcw 2; have q3 := cells_at hcw 3
            clear hcw
            go_upto_region 19 with (fail)
            have hb6 := (Below.refl wr.heap.size wr).alloc (Nat.le_refl _) (.cells #[.int .i64 xi, .int .i64 xt, .int .i64 0, .slice xa its.length xc] TP)
            have hp6 := heap_alloc_new wr (.cells #[.int .i64 xi, .int .i64 xt, .int .i64 0, .slice xa its.length xc] TP)
            have hs6 : Same w (wr.alloc (.cells #[.int .i64 xi, .int .i64 xt, .int .i64 0, .slice xa its.length xc] TP)) := ((HO.out.1.trans (same_below' H2.out.1)).trans (same_below' HB2.out.1)).trans (same_below' hb6)
            have hS6 : Sat (wr.alloc (.cells #[.int .i64 xi, .int .i64 xt, .int .i64 0, .slice xa its.length xc] TP)) (ownAt TP 4 (.slice ra (0) rc) (0) (lp.flatMap rpE) * old w) := ((HO.out.2.keep H2.out.1.block).keep HB2.out.1.block).keep hb6.block
            generalize wr.alloc (.cells #[.int .i64 xi, .int .i64 xt, .int .i64 0, .slice xa its.length xc] TP) = W6 at hp6 hs6 hS6 ⊢
            clear hb6
            generalize wr.heap.size = P at hp6 ⊢
            clear q0 q1 q2 q3 
            have p0 := cells_at hp6 0; have p1 := cells_at hp6 1; have p2 := cells_at hp6 2; have p3 := cells_at hp6 3
            have H6 := Lib.hid (And.intro hs6 hS6)
            clear hp6 hs6 hS6
            obtain ⟨hti, hz0, hts, hz2⟩ := HT.out
            go_wp2_with (at_builtin; refine wpList_append_ownAt rfl _ _ TPs TP rfl ti _ Try.underlying57 hti hz0 hts hz2 rfl (H6.out.2.allocKeep _) ([.int .i64 xi, .int .i64 xt, .int .i64 0, .slice xa its.length xc]) rfl rfl rfl (news4 _ _ _ _ _ _) (by simp [Value.oneCell']) (by unfold maxLen; omega) (by omega) ?_; intro v7 w7 h7; obtain ⟨r7, k7, rfl⟩ := ownAt_slice h7.out.2)
            refine ⟨⟨⟨0 + 1, xi, lp ++ [(toPart false ⟨xi, xt, xs, its⟩, .slice xa its.length xc)], by omega, by rw [Int.natCast_add]; rfl, HNX.out, ⟨?_, _, HX.out.1, rfl⟩, ?_, ?_, ?_, (H6.out.1.alloc _).trans h7.out.1, ?_⟩⟩, by simp only [intOf]; omega⟩
            · exact HXI.out
            · rw [List.map_append, HLD.out.1, show l.take (0 + 1) = l.take (0) ++ [((⟨xi, xt, xs, its⟩, .slice xa its.length xc) : ElC)] from by rw [List.take_add_one, HX.out.1]; rfl, List.map_append]; rfl
            · intro hf z hz
              rw [List.take_add_one, HX.out.1, Option.toList_some] at hz
              rcases List.mem_append.1 hz with hz | hz
              · exact HLD.out.2.1 (by first | exact hf | trivial) z hz
              · obtain rfl : z = _ := List.mem_singleton.1 hz
                exact HSR.out (by first | exact hf | trivial)
            · intro z hz
              rcases List.mem_append.1 hz with hz | hz
              · exact HLD.out.2.2 z hz
              · obtain rfl : z = _ := List.mem_singleton.1 hz
                have hvM : validM (-1) its := HVF.out
                unfold MapRowO
                simp only [toPart]
                rw [(rows_addL hvM).1, (rows_addL hvM).2]
                exact HROW.out
            · rw [flat_snoc]
              exact h7.out.2
      | succ k =>
        obtain ⟨hz0', pe, hpe, hpz⟩ := hpv
        obtain ⟨g2, off2, hge, hg2, z0, _, _, _⟩ := c_cells HV.out.1.row hpe
        simp only [Option.some.injEq, Addr.mk.injEq, and_true] at hge
        obtain ⟨rfl, rfl⟩ := hge
        rw [hpz] at z0
        have z0 := (HBC.out.cell (p := ⟨g, off + k * 4, none⟩) hg2).trans z0
        have hk0 : decide ((0 : Int) < ((k + 1 : Nat) : Int)) = true := decide_eq_true (by omega)
        have hkm : ((k + 1 : Nat) : Int) - 1 = (k : Int) := by omega
        by_cases hf0 : tenB xt = false
        · rw [hf0] at HTN
          skip
          have HN := Lib.hid (show ¬ validP false most l from fun h => HX.out.2.2 (fun h2 => by have := SpaceM.tenB_iff.2 h2.2.2.1; simp only at this; rw [hf0] at this; cases this) h.1)
          clear hf0
          go_upto_region 7 with (go_at_call 85; refine (HTN.out _).mono ?_; rintro e w' ⟨rfl, hww⟩; rw [hww]; clear hww w')
          go_quiet (fail)
          go_wp2
          go_ret2
          exact ⟨HBC.out.drewN _, .inr ⟨HN.out, rfl⟩⟩
        have hf1 : tenB xt = true := by simpa using hf0
        clear hf0
        rw [hf1] at HTN
        have ht12 := SpaceM.tenB_iff.1 hf1
        by_cases hf2 : xi < 0
        · have t1 : decide (xi < 0) = true := decide_eq_true hf2
          have HN := Lib.hid (show ¬ validP false most l from fun h => HX.out.2.2 (fun h2 => by have := h2.1; simp only at this; omega) h.1)
          clear hf1 hf2 ht12
          go_upto_region 7 with (go_at_call 85; refine (HTN.out _).mono ?_; rintro e w' ⟨rfl, hww⟩; rw [hww]; clear hww w')
          go_quiet (fail)
          go_wp2
          go_ret2
          exact ⟨HBC.out.drewN _, .inr ⟨HN.out, rfl⟩⟩
        have t1 : decide (xi < 0) = false := decide_eq_false hf2
        by_cases hf3 : most ≤ xi
        · have t2 : decide (most ≤ xi) = true := decide_eq_true hf3
          have HN := Lib.hid (show ¬ validP false most l from fun h => HX.out.2.2 (fun h2 => by have := h2.2.1; simp only at this; omega) h.1)
          clear hf1 hf2 hf3 ht12
          go_upto_region 7 with (go_at_call 85; refine (HTN.out _).mono ?_; rintro e w' ⟨rfl, hww⟩; rw [hww]; clear hww w')
          go_quiet (fail)
          go_wp2
          go_ret2
          exact ⟨HBC.out.drewN _, .inr ⟨HN.out, rfl⟩⟩
        have t2 : decide (most ≤ xi) = false := decide_eq_false hf3
        by_cases hf4 : xi ≤ z
        · have t3 : decide (xi ≤ z) = true := decide_eq_true hf4
          have HN := Lib.hid (show ¬ validP false most l from fun h => HX.out.2.2 (fun h2 => by have := h2.1; simp only at this; omega) h.1)
          clear hf1 hf2 hf3 hf4 ht12
          go_upto_region 7 with (go_at_call 85; refine (HTN.out _).mono ?_; rintro e w' ⟨rfl, hww⟩; rw [hww]; clear hww w')
          go_quiet (fail)
          go_wp2
          go_ret2
          exact ⟨HBC.out.drewN _, .inr ⟨HN.out, rfl⟩⟩
        have t3 : decide (xi ≤ z) = false := decide_eq_false hf4
        have HSR := Lib.hid (show false = true → 0 ≤ xs ∧ xs < 64 from fun h => by cases h)
        have HPO := Lib.hid (show z < xi ∧ xi < most ∧ (0 ≤ xt ∧ xt < 16) from ⟨by omega, by omega, ht12⟩)
        have HXI := Lib.hid (show 0 ≤ xi by omega)
        clear hf1 hf2 hf3 hf4 ht12
        go_upto_region 7 with (go_at_call 85; refine (HTN.out _).mono ?_; rintro e w' ⟨rfl, hww⟩; rw [hww]; clear hww w')
        go_quiet (fail)
        go_wp2
        clear t1 t2 t3 z0 hkm hz0' hpe hpz hg2  hk0 q0 q1 q2 q3
        go_loopw [12] (fun i wr => PmSt W2 its i wr) (fun i _ => its.length - (intOf i).toNat)
        case atStart => exact ⟨⟨0, -1, Nat.zero_le _, rfl, Iff.rfl, rfl, Below.drewN (Below.refl _ _) _⟩⟩
        case round =>
          obtain ⟨j, n, hj, rfl, hvmi, hprev, hb2w⟩ := hrel.st
          clear hrel
          have hbW := HBC.out.trans (hb2w.mono HBC.out.size)
          have hcw := (hb2w.block C (Array.getElem?_eq_some_iff.1 H2.out.2.1).1).trans H2.out.2.1
          have q3 := cells_at hcw 3
          have HB2 := Lib.hid (And.intro hb2w (And.intro hcw hbW))
          by_cases hlj : j < its.length
          · have hljd : decide ((j : Int) < (its.length : Int)) = true := decide_eq_true (by omega)
            have hji : (j : Int) ≤ 40 := by omega
            obtain ⟨y, hy⟩ : ∃ y, its[j]? = some y := ⟨_, List.getElem?_eq_getElem hlj⟩
            obtain ⟨mg, mo, rfl, hmg, y0, y1⟩ := m_cells HROW.out hy
            have y0 := (hbW.cell (p := ⟨mg, mo + j * 2, none⟩) hmg).trans y0
            have y1 := (hbW.cell (p := ⟨mg, mo + j * 2 + 1, none⟩) hmg).trans y1
            have HVM := Lib.hid (validM_drop hvmi hy)
            have HBAD := Lib.hid (fun (h : ¬ validM (-1) its) (h2 : validP false most l) => HX.out.2.2 (fun h3 => h h3.2.2.2) h2.1)
            obtain ⟨yb, yc⟩ := y
            simp only at y0 y1 HVM
            have HY := Lib.hid hy
            have HBK := Lib.hid (fun W => rblock_any yb W)
            clear hvmi hy
            go_upto_region 13 with (fail)
            have hb4 := (Below.refl wr.heap.size wr).alloc (Nat.le_refl _) (.cells #[.int .i64 yb, .int .i64 yc] 107)
            have hm4 := heap_alloc_new wr (.cells #[.int .i64 yb, .int .i64 yc] 107)
            have q3 := (hb4.cell (p := ⟨C, 3, none⟩) (Array.getElem?_eq_some_iff.1 hcw).1).trans q3
            replace hbW := hbW.trans (hb4.mono hbW.size)
            have hb24 := hb2w.trans (hb4.mono hb2w.size)
            generalize wr.alloc (.cells #[.int .i64 yb, .int .i64 yc] 107) = W4 at hb4 hm4 q3 hbW hb24 ⊢
            have hb4' := hb4
            clear hb4
            generalize wr.heap.size = M at hb4' hm4 ⊢
            have m0 := cells_at hm4 0; have m1 := cells_at hm4 1
            have HBJ := Lib.hid hbW
            have HB4 := Lib.hid hb24
            clear hb4' hm4 hb24 hb2w hcw y0 y1
            cases j with
            | zero =>
              have hj0 : decide ((0 : Int) < ((0 : Nat) : Int)) = false := by decide
              have hpz : n = -1 := hprev
              by_cases hf0 : blkB yb = false
              · rw [hf0] at HBK
                skip
                have HN := Lib.hid (show ¬ validP false most l from fun h => HBAD.out (HVM.out.2 (fun h2 => by have := SpaceM.blkB_iff.2 h2.2.1; rw [hf0] at this; cases this)) h)
                clear hf0
                go_upto_region 14 with (go_at_call 91; refine (HBK.out _).mono ?_; rintro e w' ⟨rfl, hww⟩; rw [hww]; clear hww w')
                go_quiet (fail)
                go_wp2
                go_ret2
                exact ⟨HBJ.out.drewN _, .inr ⟨HN.out, rfl⟩⟩
              have hf1 : blkB yb = true := by simpa using hf0
              rw [hf1] at HBK
              have hb12 := SpaceM.blkB_iff.1 hf1
              clear hf0
              have hf2 : ¬ yb ≤ n := by omega
              by_cases hf3 : yc < 0
              · have t3 : decide (yc < 0) = true := decide_eq_true hf3
                have HN := Lib.hid (show ¬ validP false most l from fun h => HBAD.out (HVM.out.2 (fun h2 => by omega)) h)
                clear hf1 hf2 hf3 hb12
                go_upto_region 14 with (go_at_call 91; refine (HBK.out _).mono ?_; rintro e w' ⟨rfl, hww⟩; rw [hww]; clear hww w')
                go_quiet (fail)
                go_wp2
                go_ret2
                exact ⟨HBJ.out.drewN _, .inr ⟨HN.out, rfl⟩⟩
              have t3 : decide (yc < 0) = false := decide_eq_false hf3
              by_cases hf4 : (2147483647 : Int) < yc
              · have t4 : decide ((2147483647 : Int) < yc) = true := decide_eq_true hf4
                have HN := Lib.hid (show ¬ validP false most l from fun h => HBAD.out (HVM.out.2 (fun h2 => by omega)) h)
                clear hf1 hf2 hf3 hf4 hb12
                go_upto_region 14 with (go_at_call 91; refine (HBK.out _).mono ?_; rintro e w' ⟨rfl, hww⟩; rw [hww]; clear hww w')
                go_quiet (fail)
                go_wp2
                go_ret2
                exact ⟨HBJ.out.drewN _, .inr ⟨HN.out, rfl⟩⟩
              have t4 : decide ((2147483647 : Int) < yc) = false := decide_eq_false hf4
              have HNX := Lib.hid (And.intro (HVM.out.1 ⟨by omega, hb12, by omega, by omega⟩) (show PrevM its (0 + 1) yb from ⟨(yb, yc), HY.out, rfl⟩))
              clear hf1 hf2 hf3 hf4 hb12
              go_upto_region 14 with (go_at_call 91; refine (HBK.out _).mono ?_; rintro e w' ⟨rfl, hww⟩; rw [hww]; clear hww w')
              go_quiet (fail)
              go_wp2
              refine ⟨⟨⟨0 + 1, yb, by omega, by rw [Int.natCast_add]; rfl, HNX.out.1, HNX.out.2, HB4.out.drewN _⟩⟩, by simp only [intOf]; omega⟩
            | succ j =>
              obtain ⟨pv, hpv, hpz⟩ := hprev
              obtain ⟨mg2, mo2, hme, hmg2, z0, _⟩ := m_cells HROW.out hpv
              simp only [Option.some.injEq, Addr.mk.injEq, and_true] at hme
              obtain ⟨rfl, rfl⟩ := hme
              rw [hpz] at z0
              have z0 := (hbW.cell (p := ⟨mg, mo + j * 2, none⟩) hmg2).trans z0
              have hj0 : decide ((0 : Int) < ((j + 1 : Nat) : Int)) = true := decide_eq_true (by omega)
              have hjm : ((j + 1 : Nat) : Int) - 1 = (j : Int) := by omega
              by_cases hf0 : blkB yb = false
              · rw [hf0] at HBK
                skip
                have HN := Lib.hid (show ¬ validP false most l from fun h => HBAD.out (HVM.out.2 (fun h2 => by have := SpaceM.blkB_iff.2 h2.2.1; rw [hf0] at this; cases this)) h)
                clear hf0
                go_upto_region 14 with (go_at_call 91; refine (HBK.out _).mono ?_; rintro e w' ⟨rfl, hww⟩; rw [hww]; clear hww w')
                go_quiet (fail)
                go_wp2
                go_ret2
                exact ⟨HBJ.out.drewN _, .inr ⟨HN.out, rfl⟩⟩
              have hf1 : blkB yb = true := by simpa using hf0
              rw [hf1] at HBK
              have hb12 := SpaceM.blkB_iff.1 hf1
              clear hf0
              by_cases hf2 : yb ≤ n
              · have t2 : decide (yb ≤ n) = true := decide_eq_true hf2
                have HN := Lib.hid (show ¬ validP false most l from fun h => HBAD.out (HVM.out.2 (fun h2 => by omega)) h)
                clear hf1 hf2
                go_upto_region 14 with (go_at_call 91; refine (HBK.out _).mono ?_; rintro e w' ⟨rfl, hww⟩; rw [hww]; clear hww w')
                go_quiet (fail)
                go_wp2
                go_ret2
                exact ⟨HBJ.out.drewN _, .inr ⟨HN.out, rfl⟩⟩
              have t2 : decide (yb ≤ n) = false := decide_eq_false hf2
              by_cases hf3 : yc < 0
              · have t3 : decide (yc < 0) = true := decide_eq_true hf3
                have HN := Lib.hid (show ¬ validP false most l from fun h => HBAD.out (HVM.out.2 (fun h2 => by omega)) h)
                clear hf1 hf2 hf3 hb12
                go_upto_region 14 with (go_at_call 91; refine (HBK.out _).mono ?_; rintro e w' ⟨rfl, hww⟩; rw [hww]; clear hww w')
                go_quiet (fail)
                go_wp2
                go_ret2
                exact ⟨HBJ.out.drewN _, .inr ⟨HN.out, rfl⟩⟩
              have t3 : decide (yc < 0) = false := decide_eq_false hf3
              by_cases hf4 : (2147483647 : Int) < yc
              · have t4 : decide ((2147483647 : Int) < yc) = true := decide_eq_true hf4
                have HN := Lib.hid (show ¬ validP false most l from fun h => HBAD.out (HVM.out.2 (fun h2 => by omega)) h)
                clear hf1 hf2 hf3 hf4 hb12
                go_upto_region 14 with (go_at_call 91; refine (HBK.out _).mono ?_; rintro e w' ⟨rfl, hww⟩; rw [hww]; clear hww w')
                go_quiet (fail)
                go_wp2
                go_ret2
                exact ⟨HBJ.out.drewN _, .inr ⟨HN.out, rfl⟩⟩
              have t4 : decide ((2147483647 : Int) < yc) = false := decide_eq_false hf4
              have HNX := Lib.hid (And.intro (HVM.out.1 ⟨by omega, hb12, by omega, by omega⟩) (show PrevM its (j + 1 + 1) yb from ⟨(yb, yc), HY.out, rfl⟩))
              clear hf1 hf2 hf3 hf4 hb12
              go_upto_region 14 with (go_at_call 91; refine (HBK.out _).mono ?_; rintro e w' ⟨rfl, hww⟩; rw [hww]; clear hww w')
              go_quiet (fail)
              go_wp2
              refine ⟨⟨⟨j + 1 + 1, yb, by omega, by rw [Int.natCast_add]; rfl, HNX.out.1, HNX.out.2, HB4.out.drewN _⟩⟩, by simp only [intOf]; omega⟩
          · obtain rfl : j = its.length := by omega
            have hljd : decide ((its.length : Int) < (its.length : Int)) = false := decide_eq_false (by omega)
            have hvM : validM (-1) its := hvmi.2 validM_end
            have HVF := Lib.hid hvM
            have HNX := Lib.hid (HX.out.2.1 ⟨HPO.out.1, HPO.out.2.1, HPO.out.2.2, hvM⟩)
            clear hvmi hprev hvM hb2w hbW q3
            have q0 := cells_at hcw 0; have q1 := cells_at hcw 1; have q2 := cells_at hcw 2; have q3 := cells_at hcw 3
            clear hcw
            go_upto_region 19 with (fail)
            have hb6 := (Below.refl wr.heap.size wr).alloc (Nat.le_refl _) (.cells #[.int .i64 xi, .int .i64 xt, .int .i64 0, .slice xa its.length xc] TP)
            have hp6 := heap_alloc_new wr (.cells #[.int .i64 xi, .int .i64 xt, .int .i64 0, .slice xa its.length xc] TP)
            have hs6 : Same w (wr.alloc (.cells #[.int .i64 xi, .int .i64 xt, .int .i64 0, .slice xa its.length xc] TP)) := ((HO.out.1.trans (same_below' H2.out.1)).trans (same_below' HB2.out.1)).trans (same_below' hb6)
            have hS6 : Sat (wr.alloc (.cells #[.int .i64 xi, .int .i64 xt, .int .i64 0, .slice xa its.length xc] TP)) (ownAt TP 4 (.slice ra (k + 1) rc) (k + 1) (lp.flatMap rpE) * old w) := ((HO.out.2.keep H2.out.1.block).keep HB2.out.1.block).keep hb6.block
            generalize wr.alloc (.cells #[.int .i64 xi, .int .i64 xt, .int .i64 0, .slice xa its.length xc] TP) = W6 at hp6 hs6 hS6 ⊢
            clear hb6
            generalize wr.heap.size = P at hp6 ⊢
            clear q0 q1 q2 q3 
            have p0 := cells_at hp6 0; have p1 := cells_at hp6 1; have p2 := cells_at hp6 2; have p3 := cells_at hp6 3
            have H6 := Lib.hid (And.intro hs6 hS6)
            clear hp6 hs6 hS6
            obtain ⟨hti, hz0, hts, hz2⟩ := HT.out
            go_wp2_with (at_builtin; refine wpList_append_ownAt rfl _ _ TPs TP rfl ti _ Try.underlying57 hti hz0 hts hz2 rfl (H6.out.2.allocKeep _) ([.int .i64 xi, .int .i64 xt, .int .i64 0, .slice xa its.length xc]) rfl rfl rfl (news4 _ _ _ _ _ _) (by simp [Value.oneCell']) (by unfold maxLen; omega) (by omega) ?_; intro v7 w7 h7; obtain ⟨r7, k7, rfl⟩ := ownAt_slice h7.out.2)
            refine ⟨⟨⟨k + 1 + 1, xi, lp ++ [(toPart false ⟨xi, xt, xs, its⟩, .slice xa its.length xc)], by omega, by rw [Int.natCast_add]; rfl, HNX.out, ⟨?_, _, HX.out.1, rfl⟩, ?_, ?_, ?_, (H6.out.1.alloc _).trans h7.out.1, ?_⟩⟩, by simp only [intOf]; omega⟩
            · exact HXI.out
            · rw [List.map_append, HLD.out.1, show l.take (k + 1 + 1) = l.take (k + 1) ++ [((⟨xi, xt, xs, its⟩, .slice xa its.length xc) : ElC)] from by rw [List.take_add_one, HX.out.1]; rfl, List.map_append]; rfl
            · intro hf z hz
              rw [List.take_add_one, HX.out.1, Option.toList_some] at hz
              rcases List.mem_append.1 hz with hz | hz
              · exact HLD.out.2.1 (by first | exact hf | trivial) z hz
              · obtain rfl : z = _ := List.mem_singleton.1 hz
                exact HSR.out (by first | exact hf | trivial)
            · intro z hz
              rcases List.mem_append.1 hz with hz | hz
              · exact HLD.out.2.2 z hz
              · obtain rfl : z = _ := List.mem_singleton.1 hz
                have hvM : validM (-1) its := HVF.out
                unfold MapRowO
                simp only [toPart]
                rw [(rows_addL hvM).1, (rows_addL hvM).2]
                exact HROW.out
            · rw [flat_snoc]
              exact h7.out.2
    · have hke : k = l.length := by omega
      have hltd : decide ((k : Int) < (l.length : Int)) = false := decide_eq_false (by omega)
      have hkl : k = (l.map Prod.fst).length := by rw [List.length_map]; exact hke
      have hval : validC most (-1) (l.map Prod.fst) := hvi.2 (by rw [hkl]; exact validC_end)
      have HVL := Lib.hid hval
      clear hbw hvi hval hkl hpv
      go_wp2
      go_ret2
      have hfst : lp.map Prod.fst = l.map (fun x => toPart false x.1) := by have := HLD.out.1; rwa [hke, List.take_length] at this
      have h9 := congrArg List.length hfst
      rw [List.length_map, List.length_map] at h9
      have hlpk : lp.length = k := by omega
      have hbF := HO.out.1.below_of HO.out.2
      refine ⟨hbF, .inl ⟨⟨HVL.out, fun hf x hx => HLD.out.2.1 (by first | exact hf | trivial) x (by rw [hke, List.take_length]; exact hx)⟩, _, rfl, lp, hfst, ?_, fun x hx => RowsO.below (HLD.out.2.2 x hx) hbF⟩⟩
      rw [hlpk]
      have h99 := RowsAt.own (k := 4) HO.out.2 (by decide)
      first
        | exact RowsAt.k h99
        | (rw [hke] at h99 ⊢; exact RowsAt.k h99)
        | (rw [hke] at h99; exact RowsAt.k h99)
end Go.Proofs.Ytednjhlkhecihaa
