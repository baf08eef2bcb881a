import Derived.Test.YteikbikopgabjaaGreatDoorV15
import Derived.Test.YteikbikopgabjaaGreatDoorV14
/- Part 16 of a proof; the last part says what is proved. -/
section
namespace Go.Proofs.YteikbikopgabjaaGreatDoor
open Go.RowKit Go.Vol Go.Sl
abbrev TRef : TypeId := 64
def cntOf (l : List PartM) (c : Int) (f : Nat → Int) : Nat → Int := l.foldl (fun f p => bump f p.tenant.toNat (hits c (items p.m))) f
theorem cntOf_snoc (l : List PartM) (p : PartM) (c : Int) (f : Nat → Int) : cntOf (l ++ [p]) c f = bump (cntOf l c f) p.tenant.toNat (hits c (items p.m)) := by unfold cntOf; rw [List.foldl_append]; rfl
theorem cntOf_take {l : List PartM} {i : Nat} {p : PartM} (h : l[i]? = some p) (c : Int) (f : Nat → Int) : cntOf (l.take (i + 1)) c f = bump (cntOf (l.take i) c f) p.tenant.toNat (hits c (items p.m)) := by
  rw [List.take_add_one, h]; exact cntOf_snoc _ _ _ _
theorem hits_4096 (c : Int) (m : MapM) : hits c (items m) ≤ 4096 := Nat.le_trans (hits_le _ _) (by rw [items_len]; exact cnt_le m)
theorem cntOf_le (c : Int) (t : Nat) : ∀ (l : List PartM) (f : Nat → Int) (b : Int), 0 ≤ f t → f t ≤ b → 0 ≤ cntOf l c f t ∧ cntOf l c f t ≤ b + 4096 * l.length
  | [], f, b, h0, h1 => ⟨h0, by simpa [cntOf] using h1⟩
  | p :: r, f, b, h0, h1 => by
    have hh := hits_4096 c p.m
    have h := cntOf_le c t r (bump f p.tenant.toNat (hits c (items p.m))) (b + 4096) (by unfold bump; split <;> omega) (by unfold bump; split <;> omega)
    refine ⟨h.1, ?_⟩
    have h2 := h.2
    rw [List.length_cons]
    unfold cntOf at h2 ⊢
    rw [List.foldl_cons]
    omega
def refsF (n : Nat) (f : Nat → Int) : List (Nat × Int) := (List.range n).filterMap fun t => if 0 < f t then some (t, f t) else none
def refE (x : Nat × Int) : List Value := [.int .i64 (x.1 : Int), .int .i64 x.2]
theorem refE_len (x : Nat × Int) : (refE x).length = 2 := rfl
theorem refsF_succ (n : Nat) (f : Nat → Int) : refsF (n + 1) f = refsF n f ++ if 0 < f n then [(n, f n)] else [] := by
  unfold refsF
  rw [List.range_succ, List.filterMap_append]
  by_cases h : 0 < f n <;> simp [h]
def zeroF : Nat → Int := fun _ => 0
def cntS (S : SpaceM) (c : Int) : Nat → Int := cntOf S.snaps c (cntOf S.vols c zeroF)
def refsS (S : SpaceM) (c : Int) : List (Nat × Int) := refsF 16 (cntS S c)
structure CntSt (w : World) (K C : Nat) (chunk : Int) (L : List PartM) (f : Nat → Int) (v : Value) (wr : World) : Prop where
  st : ∃ k : Nat, k ≤ L.length ∧ v = .int .i64 (k : Int) ∧ Below w.heap.size w wr ∧ wr.cell? ⟨K, 0, none⟩ = some (.int .i64 chunk) ∧ wr.heap[C]? = some (.cells (cntsC (cntOf (L.take k) chunk f)) TCnt (0, 0))
theorem cntsC_size (f : Nat → Int) : (cntsC f).size = 16 := by simp [cntsC]
theorem infoCnt {c : Array Value} (h : c.size = 16) : (Tryz.prog.info? TCnt).map (·.size) = some c.size := by rw [h]; kernel_rfl
theorem wp_load_cnt {ops : Array Oper} {rest : List Oper} {o : Oper} {a : Act} {Q : Exit → Act → World → Prop} {w : World} {g : Nat} {f : Nat → Int} (hb : w.heap[g]? = some (.cells (cntsC f) TCnt (0, 0))) (hg : o.guard = none) (x : Operand) (ho : o.op = .load TCnt x) (hx : a.eval x = .pointer (some ⟨g, 0, none⟩))
    (k : wpList Tryz.prog ops Q rest (a.put o.dst (.agg (cntsC f))) w) : wpList Tryz.prog ops Q (o :: rest) a w :=
  wpList_load_row hg TCnt x ho g hx TCnt (cntsC f) (0, 0) _ hb Tryz.underlying109 rfl (infoCnt (cntsC_size f)) k
theorem info_ref : (Tryz.prog.info? TRef).map (fun i => (i.zero, i.size, i.bytes)) = some (some (.agg #[.int .i64 0, .int .i64 0]), 2, 16) := by kernel_rfl
theorem run_idx_cnt (f : Nat → Int) {k : Nat} (h : k < 16) (w : World) : (Instr.index TCnt (.agg (cntsC f)) (.int .i64 (k : Int))).run Tryz.prog w = .ok (.int .i64 (f k)) w := by
  have e := cntsC_at f h
  have hk : (k : Int) < 16 := by omega
  simp [Instr.index, run_underlying Tryz.underlying109, asIntOf, go_sem, e]
  intro h2; omega
structure RefSt (w0 : World) (f : Nat → Int) (v i : Value) (wr : World) : Prop where
  st : ∃ k : Nat, k ≤ 16 ∧ i = .int .i64 (k : Int) ∧ Same w0 wr ∧ Sat wr (ownAt TRef 2 v (refsF k f).length ((refsF k f).flatMap refE) * old w0)
theorem refsF_len (f : Nat → Int) : ∀ n, (refsF n f).length ≤ n
  | 0 => by simp [refsF]
  | n + 1 => by rw [refsF_succ, List.length_append]; have := refsF_len f n; split <;> simp <;> omega
theorem cells16 : #[(Value.int .i64 0), .int .i64 0, .int .i64 0, .int .i64 0, .int .i64 0, .int .i64 0, .int .i64 0, .int .i64 0, .int .i64 0, .int .i64 0, .int .i64 0, .int .i64 0, .int .i64 0, .int .i64 0, .int .i64 0, .int .i64 0] = cntsC zeroF := by rfl
set_option maxRecDepth 20000 in
set_option maxHeartbeats 4000000 in
theorem refsS_any (p : Nat) (S : SpaceM) (chunk : Int) (w : World) (hS : SpaceAt TNode TSp w p S) (hwf : S.WF) :
    Calls Tryz.prog 25 #[.pointer (some ⟨p, 0, none⟩), .int .i64 chunk] w fun e w' => ∃ v, e = .returned v ∧ Hid (Below w.heap.size w w' ∧ RowsAt w' v (refsS S chunk).length ((refsS S chunk).flatMap refE)) := by
  obtain ⟨lv, ls, hlv, hls, ⟨vv, vs, hp, hrv, hrs⟩, hev, hes⟩ := hS
  obtain ⟨ao, cap, rfl, hvx⟩ := id hrv
  obtain ⟨so, scap, rfl, hsx⟩ := id hrs
  obtain ⟨c0, c1, hpl⟩ := sp_cells hp
  have HP := Lib.hid (And.intro hp (And.intro hrv (And.intro hrs (And.intro hev (And.intro hes (And.intro hlv (And.intro hls hwf)))))))
  have hvl : lv.length ≤ 64 := by have := hwf.vlen; rw [← hlv, List.length_map] at this; exact this
  have hsl : ls.length ≤ 256 := by have := hwf.slen; rw [← hls, List.length_map] at this; exact this
  clear hp hrv hrs hev hes hlv hls hwf hvx hsx
  go_enter Tryz.func25, Tryz.ntmps25
  go_wp2
  have hb0 : Below w.heap.size w ((w.alloc (.cells #[.int .i64 chunk] 3)).alloc (.cells (cntsC zeroF) TCnt)) := ((Below.refl _ _).alloc (Nat.le_refl _) _).alloc (by simp) _
  have hk0 : ((w.alloc (.cells #[.int .i64 chunk] 3)).alloc (.cells (cntsC zeroF) TCnt)).cell? ⟨w.heap.size, 0, none⟩ = some (.int .i64 chunk) := cellAlloc _ (cellNew w _ [] _)
  have hc0 : ((w.alloc (.cells #[.int .i64 chunk] 3)).alloc (.cells (cntsC zeroF) TCnt)).heap[w.heap.size + 1]? = some (.cells (cntsC zeroF) TCnt (0, 0)) := by
    have := World.alloc_heap_new (w.alloc (.cells #[.int .i64 chunk] 3)) (.cells (cntsC zeroF) TCnt); rwa [World.size_alloc] at this
  rw [show (Obj.cells #[(Value.int .i64 0), .int .i64 0, .int .i64 0, .int .i64 0, .int .i64 0, .int .i64 0, .int .i64 0, .int .i64 0, .int .i64 0, .int .i64 0, .int .i64 0, .int .i64 0, .int .i64 0, .int .i64 0, .int .i64 0, .int .i64 0] TCnt) = .cells (cntsC zeroF) TCnt from by rw [cells16]]
  generalize ((w.alloc (.cells #[.int .i64 chunk] 3)).alloc (.cells (cntsC zeroF) TCnt)) = W0 at hb0 hk0 hc0 ⊢
  have hst : CntSt w w.heap.size (w.heap.size + 1) chunk S.vols zeroF (.int .i64 ((0 : Nat) : Int)) W0 := ⟨⟨0, by omega, rfl, hb0, hk0, hc0⟩⟩
  have HST := Lib.hid hst
  clear hst hb0 hk0 hc0
  go_loopw [19] (fun v wr => CntSt w w.heap.size (w.heap.size + 1) chunk S.vols zeroF v wr) (fun v _ => lv.length - (intOf v).toNat)
  case atStart => exact HST.out
  case round =>
    obtain ⟨k, hk, rfl, hbw, hkc, hcc⟩ := hrel.st
    clear hrel HST
    by_cases hlt : k < lv.length
    · have hltd : decide ((k : Int) < (lv.length : Int)) = true := decide_eq_true (by omega)
      obtain ⟨x, hx⟩ : ∃ x, lv[k]? = some x := ⟨_, List.getElem?_eq_getElem hlt⟩
      have hxl : S.vols[k]? = some x.1 := by rw [← HP.out.2.2.2.2.2.1, List.getElem?_map, hx]; rfl
      have hN := HP.out.2.2.2.1 x (List.mem_of_getElem? hx)
      have hpw := HP.out.2.2.2.2.2.2.2.vp x.1 (List.mem_of_getElem? hxl)
      obtain ⟨⟨id, ten0, src, m⟩, r⟩ := x
      obtain ⟨⟨h1, h2⟩, _, _⟩ := hpw
      obtain ⟨ten, rfl⟩ := Int.eq_ofNat_of_zero_le h1
      obtain ⟨q, hq⟩ := NodeAt.ptr hN
      obtain rfl : r = .pointer q := hq
      obtain ⟨b, rfl, hb, e0, e1, e2, e3⟩ := vol_cells HP.out.2.1 hx
      have e0 := (hbw.cell (p := ⟨b, k * 4, none⟩) hb).trans e0
      have e1 := (hbw.cell (p := ⟨b, k * 4 + 1, none⟩) hb).trans e1
      have e2 := (hbw.cell (p := ⟨b, k * 4 + 2, none⟩) hb).trans e2
      have e3 := (hbw.cell (p := ⟨b, k * 4 + 3, none⟩) hb).trans e3
      simp only at e0 e1 e2 e3 h2
      have hst16 : ten < 16 := by omega
      have hcn := cntOf_le chunk ten (S.vols.take k) zeroF 0 (Int.le_refl _) (Int.le_refl _)
      have htl : (S.vols.take k).length ≤ 256 := by rw [List.length_take, ← HP.out.2.2.2.2.2.1, List.length_map]; omega
      have hno : ∀ W, Below w.heap.size w W → NodeOk TNode (· < w.heap.size + 1) W 2 (.pointer q) m := fun W hbW => (NodeOk.weaken (ok' := (· < w.heap.size + 1)) (fun j _ hj => by omega) hN).below hbW
      have hnx := cntOf_take hxl chunk zeroF
      have HX := Lib.hid (And.intro hnx hno)
      clear hN hxl hx hnx hno
      go_upto_region 6 with (fail)
      have hkc2 := cellAlloc (.cells #[.int .i64 id, .int .i64 (ten : Int), .pointer q, .int .i64 (cnt m : Int)] 124) hkc
      have hcc2 := (Below.heap_alloc wr (.cells #[.int .i64 id, .int .i64 (ten : Int), .pointer q, .int .i64 (cnt m : Int)] 124) _ (Array.getElem?_eq_some_iff.1 hcc).1).trans hcc
      have h0 := (Sat.old wr).alloc (.cells #[.int .i64 id, .int .i64 (ten : Int), .pointer q, .int .i64 (cnt m : Int)] 124)
      have hbw2 := hbw.alloc hbw.size (.cells #[.int .i64 id, .int .i64 (ten : Int), .pointer q, .int .i64 (cnt m : Int)] 124)
      generalize wr.alloc (.cells #[.int .i64 id, .int .i64 (ten : Int), .pointer q, .int .i64 (cnt m : Int)] 124) = W at h0 hbw2 hkc2 hcc2 ⊢
      generalize wr.heap.size = B at h0 ⊢
      have hcl := cells_at h0.block
      have d0 := hcl 0; have d1 := hcl 1; have d2 := hcl 2; have d3 := hcl 3
      have HC := Lib.hid (count_any w.heap.size (w.heap.size + 1) ten chunk id (cnt m : Int) (.pointer q) m _ W hst16 hcn.1 (by have := hcn.2; omega) hkc2 (by omega) hcc2 (HX.out.2 W hbw2))
      have HB := Lib.hid (And.intro hbw2 hkc2)
      clear hcl h0 hbw2 hkc2 hcc2 e0 e1 e2 e3 hkc hcc hbw hcn htl
      go_wp2_with (go_at_call 49; refine HC.out.mono ?_; rintro e w' ⟨⟨v, rfl⟩, hb', hc'⟩)
      have hbb := HB.out.1.trans (hb'.mono (by omega))
      refine ⟨⟨⟨k + 1, by rw [← HP.out.2.2.2.2.2.1, List.length_map]; omega, rfl, hbb, (hb'.cell (p := ⟨w.heap.size, 0, none⟩) (by simp only; omega)).trans HB.out.2, by rw [HX.out.1]; simpa using hc'⟩⟩, ?_⟩
      simp only [intOf]; omega
    · have hke : k = lv.length := by rw [← HP.out.2.2.2.2.2.1, List.length_map] at hk; omega
      subst hke
      rw [List.take_of_length_le (by rw [← HP.out.2.2.2.2.2.1, List.length_map]; omega)] at hcc
      have hltd : decide ((lv.length : Int) < (lv.length : Int)) = false := decide_eq_false (by omega)
      have c1w := (hbw.cell (p := ⟨p, 1, none⟩) hpl).trans c1
      have hst : CntSt w w.heap.size (w.heap.size + 1) chunk S.snaps (cntOf S.vols chunk zeroF) (.int .i64 ((0 : Nat) : Int)) wr := ⟨⟨0, by omega, rfl, hbw, hkc, by simpa [cntOf] using hcc⟩⟩
      have HST := Lib.hid hst
      have HF := Lib.hid (show ∀ t, 0 ≤ cntOf S.vols chunk zeroF t ∧ cntOf S.vols chunk zeroF t ≤ 262144 from fun t => by
        have h := cntOf_le chunk t S.vols zeroF 0 (Int.le_refl _) (Int.le_refl _)
        have h2 : S.vols.length = lv.length := by rw [← HP.out.2.2.2.2.2.1, List.length_map]
        exact ⟨h.1, by omega⟩)
      clear hst hbw hkc hcc c0 c1
      go_wp2
      clear c1w hltd hlt
      go_loopw [33] (fun v wr => CntSt w w.heap.size (w.heap.size + 1) chunk S.snaps (cntOf S.vols chunk zeroF) v wr) (fun v _ => ls.length - (intOf v).toNat)
      case atStart => exact HST.out
      case round =>
        obtain ⟨k, hk, rfl, hbw, hkc, hcc⟩ := hrel.st
        clear hrel HST
        by_cases hlt : k < ls.length
        · have hltd : decide ((k : Int) < (ls.length : Int)) = true := decide_eq_true (by omega)
          obtain ⟨x, hx⟩ : ∃ x, ls[k]? = some x := ⟨_, List.getElem?_eq_getElem hlt⟩
          have hxl : S.snaps[k]? = some x.1 := by rw [← HP.out.2.2.2.2.2.2.1, List.getElem?_map, hx]; rfl
          have hN := HP.out.2.2.2.2.1 x (List.mem_of_getElem? hx)
          have hpw := HP.out.2.2.2.2.2.2.2.sp x.1 (List.mem_of_getElem? hxl)
          obtain ⟨⟨id, ten0, src, m⟩, r⟩ := x
          obtain ⟨⟨h1, h2⟩, _, _⟩ := hpw
          obtain ⟨ten, rfl⟩ := Int.eq_ofNat_of_zero_le h1
          obtain ⟨q, hq⟩ := NodeAt.ptr hN
          obtain rfl : r = .pointer q := hq
          obtain ⟨b, rfl, hb, e0, e1, e2, e3, e4⟩ := snap_cells HP.out.2.2.1 hx
          have e0 := (hbw.cell (p := ⟨b, k * 5, none⟩) hb).trans e0
          have e1 := (hbw.cell (p := ⟨b, k * 5 + 1, none⟩) hb).trans e1
          have e2 := (hbw.cell (p := ⟨b, k * 5 + 2, none⟩) hb).trans e2
          have e3 := (hbw.cell (p := ⟨b, k * 5 + 3, none⟩) hb).trans e3
          have e4 := (hbw.cell (p := ⟨b, k * 5 + 4, none⟩) hb).trans e4
          simp only at e0 e1 e2 e3 e4 h2
          have hst16 : ten < 16 := by omega
          have hcn := cntOf_le chunk ten (S.snaps.take k) (cntOf S.vols chunk zeroF) 262144 (HF.out ten).1 (HF.out ten).2
          have htl : (S.snaps.take k).length ≤ 256 := by rw [List.length_take, ← HP.out.2.2.2.2.2.2.1, List.length_map]; omega
          have hno : ∀ W, Below w.heap.size w W → NodeOk TNode (· < w.heap.size + 1) W 2 (.pointer q) m := fun W hbW => (NodeOk.weaken (ok' := (· < w.heap.size + 1)) (fun j _ hj => by omega) hN).below hbW
          have hnx := cntOf_take hxl chunk (cntOf S.vols chunk zeroF)
          have HX := Lib.hid (And.intro hnx hno)
          clear hN hxl hx hnx hno
          go_upto_region 11 with (fail)
          have hkc2 := cellAlloc (.cells #[.int .i64 id, .int .i64 (ten : Int), .pointer q, .int .i64 (cnt m : Int), .int .i64 src] 126) hkc
          have hcc2 := (Below.heap_alloc wr (.cells #[.int .i64 id, .int .i64 (ten : Int), .pointer q, .int .i64 (cnt m : Int), .int .i64 src] 126) _ (Array.getElem?_eq_some_iff.1 hcc).1).trans hcc
          have h0 := (Sat.old wr).alloc (.cells #[.int .i64 id, .int .i64 (ten : Int), .pointer q, .int .i64 (cnt m : Int), .int .i64 src] 126)
          have hbw2 := hbw.alloc hbw.size (.cells #[.int .i64 id, .int .i64 (ten : Int), .pointer q, .int .i64 (cnt m : Int), .int .i64 src] 126)
          generalize wr.alloc (.cells #[.int .i64 id, .int .i64 (ten : Int), .pointer q, .int .i64 (cnt m : Int), .int .i64 src] 126) = W at h0 hbw2 hkc2 hcc2 ⊢
          generalize wr.heap.size = B at h0 ⊢
          have hcl := cells_at h0.block
          have d0 := hcl 0; have d1 := hcl 1; have d2 := hcl 2; have d3 := hcl 3
          have HC := Lib.hid (count_any w.heap.size (w.heap.size + 1) ten chunk id (cnt m : Int) (.pointer q) m _ W hst16 hcn.1 (by have := hcn.2; omega) hkc2 (by omega) hcc2 (HX.out.2 W hbw2))
          have HB := Lib.hid (And.intro hbw2 hkc2)
          clear hcl h0 hbw2 hkc2 hcc2 e0 e1 e2 e3 e4 hkc hcc hbw hcn htl
          go_wp2_with (go_at_call 49; refine HC.out.mono ?_; rintro e w' ⟨⟨v, rfl⟩, hb', hc'⟩)
          have hbb := HB.out.1.trans (hb'.mono (by omega))
          refine ⟨⟨⟨k + 1, by rw [← HP.out.2.2.2.2.2.2.1, List.length_map]; omega, rfl, hbb, (hb'.cell (p := ⟨w.heap.size, 0, none⟩) (by simp only; omega)).trans HB.out.2, by rw [HX.out.1]; simpa using hc'⟩⟩, ?_⟩
          simp only [intOf]; omega
        · have hke : k = ls.length := by rw [← HP.out.2.2.2.2.2.2.1, List.length_map] at hk; omega
          subst hke
          rw [List.take_of_length_le (by rw [← HP.out.2.2.2.2.2.2.1, List.length_map]; omega)] at hcc
          have hltd : decide ((ls.length : Int) < (ls.length : Int)) = false := decide_eq_false (by omega)
          have HW := Lib.hid hbw
          have hst : RefSt wr (cntS S chunk) (.slice none 0 0) (.int .i64 ((0 : Nat) : Int)) wr := ⟨⟨0, by omega, rfl, Same.refl wr, ownAt_nil.2 (Sat.old wr)⟩⟩
          have HST := Lib.hid hst
          have hload : wr.heap[w.heap.size + 1]? = some (.cells (cntsC (cntS S chunk)) TCnt (0, 0)) := hcc
          have HPOS := Lib.hid (show ∀ t, cntS S chunk t ≤ 2000000 from fun t => by
            have h := (cntOf_le chunk t S.snaps (cntOf S.vols chunk zeroF) 262144 (HF.out t).1 (HF.out t).2).2
            have h2 : S.snaps.length = ls.length := by rw [← HP.out.2.2.2.2.2.2.1, List.length_map]
            unfold cntS; omega)
          have HEND := Lib.hid (show refsS S chunk = refsF 16 (cntS S chunk) from rfl)
          generalize cntS S chunk = f at hst HST hload HPOS HEND
          obtain ⟨ti, hti, hz0, hts, hz2⟩ := info_parts info_ref
          clear hst hbw hkc hcc hltd hlt HF HP hsl hvl hk
          go_wp2_with ((with_reducible (apply wp_load_cnt hload)); rfl; rfl; rfl)
          go_loopw [4, 43] (fun v i wv => RefSt wr f v i wv) (fun _ i _ => 16 - (intOf i).toNat)
          case atStart => exact HST.out
          case round =>
            obtain ⟨k, hk, rfl, hsm, hs⟩ := hrel.st
            obtain ⟨ra, rc, rfl⟩ := ownAt_slice hs
            have H1 := Lib.hid (And.intro hsm hs)
            clear hrel HST hload hsm hs
            by_cases hk16 : k < 16
            · have hki : (k : Int) < 16 := by omega
              have hat := fun w => run_idx_cnt f hk16 w
              have hps := HPOS.out k
              have hlen := refsF_len f k
              have hsu := refsF_succ k f
              by_cases hp : 0 < f k
              · rw [if_pos hp] at hsu
                have HSU := Lib.hid hsu
                have HLN := Lib.hid hlen
                clear hsu hlen hps
                go_wp2_with (at_builtin; refine wpList_append_ownAt rfl _ _ 61 TRef rfl ti _ Tryz.underlying61 hti hz0 hts hz2 rfl (H1.out.2.allocKeep _) (refE (k, f k)) rfl rfl rfl ?_ (by simp [refE, Value.oneCell']) (by have := HLN.out; unfold maxLen; omega) (by have := HLN.out; omega) ?_)
                · intro j u hu
                  match j, hu with
                  | 0, hu => rw [Addr.add_mid, cells_at (heap_alloc_new _ _)]; simpa [refE] using hu
                  | 1, hu => rw [Addr.add_mid, cells_at (heap_alloc_new _ _)]; simpa [refE] using hu
                intro v' w2 h2
                obtain ⟨ra2, rc2, rfl⟩ := ownAt_slice h2.out.2
                go_wp2
                refine ⟨⟨⟨k + 1, by omega, rfl, (H1.out.1.alloc _).trans h2.out.1, by rw [HSU.out, List.flatMap_append, List.length_append]; simpa using h2.out.2⟩⟩, ?_⟩
                simp only [intOf]; omega
              · rw [if_neg hp, List.append_nil] at hsu
                have HSU := Lib.hid hsu
                have hp0 : f k ≤ 0 := by omega
                clear hsu hlen hps
                go_wp2
                refine ⟨⟨⟨k + 1, by omega, rfl, H1.out.1, by rw [HSU.out]; exact H1.out.2⟩⟩, ?_⟩
                simp only [intOf]; omega
            · obtain rfl : k = 16 := by omega
              go_wp2
              go_ret
              exact ⟨_, rfl, HW.out.trans ((H1.out.1.below_of H1.out.2).mono HW.out.size), by rw [HEND.out]; exact RowsAt.own H1.out.2 (by omega)⟩
end Go.Proofs.YteikbikopgabjaaGreatDoor
end
section
namespace Go.Proofs.YteikbikopgabjaaGreatDoor
open Go.RowKit Go.Vol Go.Sl
theorem _root_.Go.Sl.Sat.drewN {w : World} {P : HProp} (h : Sat w P) (n : Nat) : Sat (w.drewN n) P := h
theorem _root_.Go.Sl.Same.drewN {w w' : World} (h : Same w w') (n : Nat) : Same w (w'.drewN n) := h.trans ⟨rfl, rfl, rfl, Nat.le_refl _⟩
def rpE (x : ElM) : List Value := [.int .i64 x.1.id, .int .i64 x.1.tenant, .int .i64 x.1.src, x.2]
def RowK (ok : Nat → Prop) (w : World) (v : Value) (n : Nat) (L : List Value) : Prop := ∃ ao cap, v = .slice ao n cap ∧ (n ≤ cap ∧ (ao = none → cap = 0)) ∧ cap ≤ maxLen ∧ (0 < n → ∃ b : Nat, ao = some ⟨b, 0, none⟩ ∧ ok b ∧ b < w.heap.size ∧ ∀ j u, L[j]? = some u → w.cell? ⟨b, j, none⟩ = some u)
theorem RowK.rows {ok : Nat → Prop} {w : World} {v : Value} {n : Nat} {L : List Value} (h : RowK ok w v n L) : RowsAt w v n L := by
  obtain ⟨ao, cap, h1, h2, h3, h4⟩ := h
  exact ⟨ao, cap, h1, h2, h3, fun hn => by obtain ⟨b, h5, _, h6, h7⟩ := h4 hn; exact ⟨b, h5, h6, h7⟩⟩
theorem RowK.weaken {ok ok' : Nat → Prop} {w : World} {v : Value} {n : Nat} {L : List Value} (h : RowK ok w v n L) (hk : ∀ b, ok b → b < w.heap.size → ok' b) : RowK ok' w v n L := by
  obtain ⟨ao, cap, h1, h2, h3, h4⟩ := h
  exact ⟨ao, cap, h1, h2, h3, fun hn => by obtain ⟨b, h5, h0, h6, h7⟩ := h4 hn; exact ⟨b, h5, hk b h0 h6, h6, h7⟩⟩
theorem RowK.keep {ok : Nat → Prop} {w w' : World} {v : Value} {n : Nat} {L : List Value} (h : RowK ok w v n L) (hs : w.heap.size ≤ w'.heap.size) (hk : ∀ b, ok b → b < w.heap.size → w'.heap[b]? = w.heap[b]?) : RowK ok w' v n L := by
  obtain ⟨ao, cap, h1, h2, h3, h4⟩ := h
  refine ⟨ao, cap, h1, h2, h3, fun hn => ?_⟩
  obtain ⟨b, h5, h0, h6, h7⟩ := h4 hn
  exact ⟨b, h5, h0, by omega, fun j u hu => by rw [World.cell?_of_block (w := w) (hk b h0 h6)]; exact h7 j u hu⟩
theorem RowK.nil (ok : Nat → Prop) (w : World) : RowK ok w (.slice none 0 0) 0 [] := ⟨none, 0, rfl, ⟨Nat.le_refl _, fun _ => rfl⟩, by unfold maxLen; omega, fun h => absurd h (Nat.lt_irrefl _)⟩
theorem RowsAt.k {w : World} {v : Value} {n : Nat} {L : List Value} (h : RowsAt w v n L) : RowK (fun _ => True) w v n L := by
  obtain ⟨ao, cap, h1, h2, h3, h4⟩ := h
  exact ⟨ao, cap, h1, h2, h3, fun hn => by obtain ⟨b, h5, h6, h7⟩ := h4 hn; exact ⟨b, h5, trivial, h6, h7⟩⟩
theorem old_ge {w W : World} {g : Nat} {o : Obj} {R : HProp} (h : Sat W (pts g o * (R * old w))) : w.heap.size ≤ g := by
  obtain ⟨_, ⟨a, x, rfl, ⟨r, s, _, rfl, _, rfl⟩, hd, rfl⟩, _⟩ := h
  rcases Nat.lt_or_ge g w.heap.size with hlt | hge
  · exfalso
    rcases hd g with h | h
    · simp at h
    · have e : w.heap[g]? = some w.heap[g] := Array.getElem?_eq_getElem hlt
      simp only [un, e] at h
      cases hr : r g with
      | none => rw [hr] at h; simp at h
      | some q => rw [hr] at h; simp at h
  · exact hge
theorem RowK.own {w W : World} {T : TypeId} {k n : Nat} {v : Value} {L : List Value} {R : HProp} (h : Sat W (ownAt T k v n L * (R * old w))) (_hk : 0 < k) : RowK (fun b => w.heap.size ≤ b) W v n L := by
  rcases ownAt_iff.1 h with ⟨rfl, rfl, rfl, _⟩ | ⟨g, cap, cur, ⟨rfl, h1, h2, h3, h4, h5⟩, hs⟩
  · exact RowK.nil _ W
  · refine ⟨_, cap, rfl, ⟨h1, by simp⟩, h2, fun hn => ⟨g, rfl, old_ge hs, hs.lt, fun j u hu => ?_⟩⟩
    rw [cells_at hs.block, ← Array.getElem?_toList]
    rw [← h4, List.getElem?_take] at hu
    split at hu
    · exact hu
    · cases hu
def MapRow (ok : Nat → Prop) (w : World) (x : ElM) : Prop := RowK ok w x.2 (items x.1.m).length ((items x.1.m).flatMap refE)
def RefL (ok : Nat → Prop) (w : World) (v : Value) (L : List PartM) : Prop := ∃ l : List ElM, l.map Prod.fst = L ∧ RowK ok w v l.length (l.flatMap rpE) ∧ ∀ x ∈ l, MapRow ok w x
structure RefAt (ok : Nat → Prop) (w : World) (vv vs : Value) (S : SpaceM) : Prop where
  v : RefL ok w vv S.vols
  s : RefL ok w vs S.snaps
theorem RefL.keep {ok : Nat → Prop} {w w' : World} {v : Value} {L : List PartM} (h : RefL ok w v L) (hs : w.heap.size ≤ w'.heap.size) (hk : ∀ b, ok b → b < w.heap.size → w'.heap[b]? = w.heap[b]?) : RefL ok w' v L := by
  obtain ⟨l, h1, h2, h3⟩ := h
  exact ⟨l, h1, h2.keep hs hk, fun x hx => (h3 x hx).keep hs hk⟩
theorem RefL.weaken {ok ok' : Nat → Prop} {w : World} {v : Value} {L : List PartM} (h : RefL ok w v L) (hk : ∀ b, ok b → b < w.heap.size → ok' b) : RefL ok' w v L := by
  obtain ⟨l, h1, h2, h3⟩ := h
  exact ⟨l, h1, h2.weaken hk, fun x hx => (h3 x hx).weaken hk⟩
theorem RefL.below {ok : Nat → Prop} {w w' : World} {v : Value} {L : List PartM} (h : RefL ok w v L) (hb : Below w.heap.size w w') : RefL ok w' v L := h.keep hb.size fun b _ hl => hb.block b hl
theorem RowK.below {ok : Nat → Prop} {w w' : World} {v : Value} {n : Nat} {L : List Value} (h : RowK ok w v n L) (hb : Below w.heap.size w w') : RowK ok w' v n L := h.keep hb.size fun b _ hl => hb.block b hl
theorem RefAt.below {ok : Nat → Prop} {w w' : World} {vv vs : Value} {S : SpaceM} (h : RefAt ok w vv vs S) (hb : Below w.heap.size w w') : RefAt ok w' vv vs S := ⟨h.v.below hb, h.s.below hb⟩
theorem RefAt.weaken {ok ok' : Nat → Prop} {w : World} {vv vs : Value} {S : SpaceM} (h : RefAt ok w vv vs S) (hk : ∀ b, ok b → b < w.heap.size → ok' b) : RefAt ok' w vv vs S := ⟨h.v.weaken hk, h.s.weaken hk⟩
theorem RefAt.keep {ok : Nat → Prop} {w w' : World} {vv vs : Value} {S : SpaceM} (h : RefAt ok w vv vs S) (hs : w.heap.size ≤ w'.heap.size) (hk : ∀ b, ok b → b < w.heap.size → w'.heap[b]? = w.heap[b]?) : RefAt ok w' vv vs S := ⟨h.v.keep hs hk, h.s.keep hs hk⟩
theorem RefL.nil (ok : Nat → Prop) (w : World) : RefL ok w (.slice none 0 0) [] := ⟨[], rfl, RowK.nil ok w, fun x hx => absurd hx (by simp)⟩
theorem RefL.slice {ok : Nat → Prop} {w : World} {v : Value} {L : List PartM} (h : RefL ok w v L) : ∃ a c, v = .slice a L.length c ∧ L.length ≤ c ∧ c ≤ maxLen := by
  obtain ⟨l, rfl, ⟨a, c, rfl, h2, h3, _⟩, _⟩ := h
  rw [List.length_map]
  exact ⟨a, c, rfl, h2.1, h3⟩
theorem MapRow.slice {ok : Nat → Prop} {w : World} {x : ElM} (h : MapRow ok w x) : ∃ a c, x.2 = .slice a (items x.1.m).length c := by
  obtain ⟨a, c, e, _⟩ := h
  exact ⟨a, c, e⟩
theorem sat_block {w : World} {b : Nat} {o : Obj} (h : w.heap[b]? = some o) : Sat w (pts b o * emp) := by
  rw [star_emp]
  refine ⟨_, rfl, fun k o2 hk => ?_⟩
  by_cases hkb : k = b
  · subst hkb
    simp only [if_true, Option.some.injEq] at hk
    subst hk; exact h
  · rw [if_neg hkb] at hk; cases hk
end Go.Proofs.YteikbikopgabjaaGreatDoor
end
section
namespace Go.Proofs.YteikbikopgabjaaGreatDoor
open Go.RowKit Go.Vol Go.Sl
theorem items_split (m : MapM) {b : Nat} (hb : b < 4096) : items m = itemsF b 0 m ++ ((m b).map fun c => (b, c)).toList ++ itemsF (4095 - b) (b + 1) (fun i => m (b + 1 + i)) := by
  rw [show items m = itemsF (b + 1 + (4095 - b)) 0 m from by unfold items; congr 1; omega, itemsF_add, Nat.zero_add, itemsF_succ, Nat.zero_add]
theorem items_upd {m : MapM} {b : Nat} {x : Option Int} (hb : b < 4096) : items (upd m b x) = itemsF b 0 m ++ (x.map fun c => (b, c)).toList ++ itemsF (4095 - b) (b + 1) (fun i => m (b + 1 + i)) := by
  rw [items_split _ hb]
  congr 1
  · congr 1
    · exact itemsF_congr 0 b fun i hi => by unfold upd; rw [if_neg (by omega)]
    · unfold upd; rw [if_pos rfl]
  · exact itemsF_congr (b + 1) _ fun i hi => by unfold upd; rw [if_neg (by omega)]
end Go.Proofs.YteikbikopgabjaaGreatDoor
end
section
namespace Go.Proofs.YteikbikopgabjaaGreatDoor
open Go.RowKit Go.Vol Go.Vol.SpaceM
def sumN : Nat → (Nat → Int) → Int
  | 0, _ => 0
  | n + 1, g => sumN n g + g n
theorem sumN_add (g h : Nat → Int) : ∀ n, sumN n (fun c => g c + h c) = sumN n g + sumN n h
  | 0 => rfl
  | n + 1 => by simp only [sumN, sumN_add g h n]; omega
theorem sumN_congr {g h : Nat → Int} : ∀ n, (∀ i, i < n → g i = h i) → sumN n g = sumN n h
  | 0, _ => rfl
  | n + 1, e => by simp only [sumN]; rw [sumN_congr n (fun i hi => e i (by omega)), e n (by omega)]
theorem sumN_zero : ∀ n, sumN n (fun _ => 0) = 0
  | 0 => rfl
  | n + 1 => by simp only [sumN, sumN_zero n]; rfl
theorem hits_cons (c : Int) (x : Nat × Int) (l : List (Nat × Int)) : (hits c (x :: l) : Int) = (if x.2 = c then 1 else 0) + hits c l := by
  unfold hits
  rw [List.filter_cons]
  by_cases h : x.2 = c
  · simp [h]; omega
  · simp [h]
theorem sumN_bump (f : Nat → Int) (t k : Nat) : ∀ n, sumN n (bump f t k) = sumN n f + if t < n then (k : Int) else 0
  | 0 => by simp [sumN]
  | n + 1 => by
    simp only [sumN]
    rw [sumN_bump f t k n]
    unfold bump
    by_cases h1 : t < n
    · rw [if_pos h1, if_neg (by omega), if_pos (by omega)]; omega
    · rw [if_neg h1]
      by_cases h2 : n = t
      · rw [if_pos h2, if_pos (by omega)]; omega
      · rw [if_neg h2, if_neg (by omega)]; omega
def hitsL (l : List PartM) (c : Int) : Int := (l.map fun p => (hits c (items p.m) : Int)).sum
theorem cntOf_sum (c : Int) : ∀ (l : List PartM) (f : Nat → Int), (∀ p ∈ l, p.tenant.toNat < 16) → sumN 16 (cntOf l c f) = sumN 16 f + hitsL l c
  | [], f, _ => by simp [cntOf, hitsL]
  | p :: r, f, h => by
    have h1 := cntOf_sum c r (bump f p.tenant.toNat (hits c (items p.m))) (fun q hq => h q (by simp [hq]))
    have h2 : cntOf (p :: r) c f = cntOf r c (bump f p.tenant.toNat (hits c (items p.m))) := rfl
    rw [h2, h1, sumN_bump, if_pos (h p (by simp))]
    unfold hitsL
    rw [List.map_cons, List.sum_cons]
    omega
theorem cntOf_nonneg (c : Int) (t : Nat) : ∀ (l : List PartM) (f : Nat → Int), 0 ≤ f t → 0 ≤ cntOf l c f t := fun l f h => (cntOf_le c t l f (f t) h (Int.le_refl _)).1
theorem cntS_nonneg (S : SpaceM) (c : Int) (t : Nat) : 0 ≤ cntS S c t := cntOf_nonneg c t _ _ (cntOf_nonneg c t _ _ (Int.le_refl _))
def sumR (l : List (Nat × Int)) : Int := (l.map Prod.snd).sum
theorem sumR_snoc (l : List (Nat × Int)) (x : Nat × Int) : sumR (l ++ [x]) = sumR l + x.2 := by unfold sumR; rw [List.map_append, List.sum_append]; simp
theorem sumR_refsF (f : Nat → Int) (h : ∀ t, 0 ≤ f t) : ∀ n, sumR (refsF n f) = sumN n f
  | 0 => rfl
  | n + 1 => by
    rw [refsF_succ]
    simp only [sumN]
    by_cases hp : 0 < f n
    · rw [if_pos hp, sumR_snoc, sumR_refsF f h n]
    · have := h n
      rw [if_neg hp, List.append_nil, sumR_refsF f h n]; omega
theorem refsF_mem {f : Nat → Int} : ∀ {n : Nat} {x : Nat × Int}, x ∈ refsF n f → x.1 < n ∧ x.2 = f x.1 ∧ 0 < x.2
  | 0, x, h => by simp [refsF] at h
  | n + 1, x, h => by
    rw [refsF_succ, List.mem_append] at h
    rcases h with h | h
    · have := refsF_mem h; exact ⟨by omega, this.2⟩
    · by_cases hp : 0 < f n
      · rw [if_pos hp, List.mem_singleton] at h
        subst h
        exact ⟨Nat.lt_succ_self _, rfl, hp⟩
      · rw [if_neg hp] at h; simp at h
theorem refsF_up {f : Nat → Int} : ∀ {n : Nat}, (refsF n f).Pairwise fun a b => a.1 < b.1
  | 0 => by simp [refsF]
  | n + 1 => by
    rw [refsF_succ, List.pairwise_append]
    refine ⟨refsF_up, ?_, fun a ha b hb => ?_⟩
    · split <;> simp
    · have h1 := refsF_mem ha
      split at hb
      · obtain rfl : b = _ := List.mem_singleton.1 hb
        exact h1.1
      · simp at hb
def refSum (S : SpaceM) (c : Nat) : Int := sumR (refsS S (c : Int))
theorem refSum_eq {S : SpaceM} (h : S.WF) (c : Nat) : refSum S c = hitsL S.vols c + hitsL S.snaps c := by
  unfold refSum refsS
  rw [sumR_refsF _ (cntS_nonneg S c)]
  unfold cntS
  rw [cntOf_sum _ _ _ (fun p hp => by have := (h.sp p hp).ten; omega), cntOf_sum _ _ _ (fun p hp => by have := (h.vp p hp).ten; omega)]
  rw [show sumN 16 zeroF = 0 from sumN_zero 16]
  omega
theorem sumR_take {l : List (Nat × Int)} {k : Nat} {x : Nat × Int} (h : l[k]? = some x) : sumR (l.take (k + 1)) = sumR (l.take k) + x.2 := by
  rw [List.take_add_one, h]; exact sumR_snoc _ _
theorem cntS_bound {S : SpaceM} (h : S.WF) (c : Int) (t : Nat) : 0 ≤ cntS S c t ∧ cntS S c t ≤ 2000000 := by
  have h1 := cntOf_le c t S.vols zeroF 0 (Int.le_refl _) (Int.le_refl _)
  have h2 := cntOf_le c t S.snaps (cntOf S.vols c zeroF) _ h1.1 h1.2
  have h3 := h.vlen
  have h4 := h.slen
  unfold cntS
  omega
theorem refs_at {S : SpaceM} (h : S.WF) {c : Int} {j : Nat} {x : Nat × Int} (hx : (refsS S c)[j]? = some x) : 1 ≤ x.2 ∧ x.2 ≤ 2000000 ∧ x.1 < 16 ∧ j < 16 ∧ (0 < j → ∃ y, (refsS S c)[j - 1]? = some y ∧ y.1 < x.1) := by
  have hm := refsF_mem (List.mem_of_getElem? hx)
  have hb := cntS_bound h c x.1
  have hlt := (List.getElem?_eq_some_iff.1 hx).1
  have hlen := refsF_len (cntS S c) 16
  refine ⟨by omega, by rw [hm.2.1]; exact hb.2, hm.1, by unfold refsS at hlt; omega, fun hj => ?_⟩
  have hl2 : j - 1 < (refsS S c).length := by omega
  refine ⟨_, List.getElem?_eq_getElem hl2, ?_⟩
  have h9 : ((refsS S c)[j - 1]).1 < ((refsS S c)[j]).1 := List.pairwise_iff_getElem.1 (refsF_up (f := cntS S c) (n := 16)) (j - 1) j hl2 hlt (by omega)
  have h8 : (refsS S c)[j] = x := (List.getElem?_eq_some_iff.1 hx).2
  rw [h8] at h9
  exact h9
end Go.Proofs.YteikbikopgabjaaGreatDoor
end
section
namespace Go.Proofs.YteikbikopgabjaaGreatDoor
open Go.RowKit Go.Vol Go.Vol.SpaceM Go.Sl
def addN (l : List (Nat × Int)) : MapM := l.foldl (fun m x => upd m x.1 (some x.2)) Vol.empty
theorem addN_snoc (l : List (Nat × Int)) (x : Nat × Int) : addN (l ++ [x]) = upd (addN l) x.1 (some x.2) := by unfold addN; rw [List.foldl_append]; rfl
theorem cntF_empty : ∀ n, cntF n Vol.empty = 0
  | 0 => rfl
  | n + 1 => by rw [cntF_succ, cntF_empty n]; rfl
theorem cnt_empty : cnt (addN []) = 0 := cntF_empty 4096
end Go.Proofs.YteikbikopgabjaaGreatDoor
end
section
namespace Go.Proofs.YteikbikopgabjaaGreatDoor
open Go.RowKit Go.Vol Go.Sl
theorem exec_app27 {a : Act} {w : World} {o : Oper} {x y : Operand} {t : TypeId} {v u v' : Value} {w' : World} (ho : o.op = .call { callee := .builtin .append, args := #[x, y], argTypes := #[t, t] }) (hx : a.eval x = v) (hy : a.eval y = u)
    (h : (Builtin.append_ #[t, t] o.type #[v, u]).run Tryz.prog w = .ok v' w') : (execOp a.eval o).run Tryz.prog w = .ok (.value v') w' := by
  unfold execOp
  simp only [ho, resolve, invoke, builtin, Sem.run_bind, Sem.run_pure, Result.andThen_ok, List.map_toArray, List.map_cons, List.map_nil, hx, hy, h]
abbrev TVi : TypeId := 142
abbrev TSi : TypeId := 148
def viE (p : PartM) : List Value := [.int .i64 p.id, .int .i64 p.tenant, .int .i64 (cnt p.m : Int)]
def siE (p : PartM) : List Value := [.int .i64 p.id, .int .i64 p.src, .int .i64 p.tenant, .int .i64 (cnt p.m : Int)]
theorem viE_len (x : PartM) : (viE x).length = 3 := rfl
theorem siE_len (x : PartM) : (siE x).length = 4 := rfl
theorem info_vi : (Tryz.prog.info? TVi).map (fun i => (i.zero, i.size, i.bytes)) = some (some (.agg #[.int .i64 0, .int .i64 0, .int .i64 0]), 3, 24) := by kernel_rfl
theorem info_si : (Tryz.prog.info? TSi).map (fun i => (i.zero, i.size, i.bytes)) = some (some (.agg #[.int .i64 0, .int .i64 0, .int .i64 0, .int .i64 0]), 4, 32) := by kernel_rfl
structure ListSt (T : TypeId) (n : Nat) (enc : PartM → List Value) (w0 : World) (L : List PartM) (v i : Value) (wr : World) : Prop where
  st : ∃ k : Nat, k ≤ L.length ∧ i = .int .i64 (k : Int) ∧ Same w0 wr ∧ Sat wr (ownAt T n v k ((L.take k).flatMap enc) * old w0)
set_option maxHeartbeats 1000000 in
theorem treeLen_any (q : Option Addr) (nv : Int) (w : World) :
    Calls Tryz.prog 85 #[.agg #[.pointer q, .int .i64 nv]] w fun e w' => e = .returned (.int .i64 nv) ∧ w' = w.alloc (.cells #[.pointer q, .int .i64 nv] TTree) := by
  go_enter Tryz.func85, Tryz.ntmps85
  go_wp2
  go_ret
  exact ⟨rfl, rfl⟩
end Go.Proofs.YteikbikopgabjaaGreatDoor
end
