/- volume.Space.Refs. Printed by vr.py. -/
import Derived.Test.YtednjhlkhecihaaGreatDoorVz
import Derived.Test.YtednjhlkhecihaaGreatDoorVp
namespace Go.Proofs.YtednjhlkhecihaaGreatDoor
open Go.RowKit Go.Vol Go.Sl

abbrev TRef : TypeId := 48
def cntOf (l : List PartM) (c : Int) (f : Nat → Int) : Nat → Int := l.foldl (fun f p => bump f p.tenant.toNat (hits c (items p.m))) f
theorem cntOf_snoc (l : List PartM) (p : PartM) (c : Int) (f : Nat → Int) : cntOf (l ++ [p]) c f = bump (cntOf l c f) p.tenant.toNat (hits c (items p.m)) := by unfold cntOf; rw [List.foldl_append]; rfl
theorem cntOf_take {l : List PartM} {i : Nat} {p : PartM} (h : l[i]? = some p) (c : Int) (f : Nat → Int) : cntOf (l.take (i + 1)) c f = bump (cntOf (l.take i) c f) p.tenant.toNat (hits c (items p.m)) := by
  rw [List.take_add_one, h]; exact cntOf_snoc _ _ _ _
theorem hits_4096 (c : Int) (m : MapM) : hits c (items m) ≤ 4096 := Nat.le_trans (hits_le _ _) (by rw [items_len]; exact cnt_le m)
theorem cntOf_le (c : Int) (t : Nat) : ∀ (l : List PartM) (f : Nat → Int) (b : Int), 0 ≤ f t → f t ≤ b → 0 ≤ cntOf l c f t ∧ cntOf l c f t ≤ b + 4096 * l.length
  | [], f, b, h0, h1 => ⟨h0, by simpa [cntOf] using h1⟩
  | p :: r, f, b, h0, h1 => by
    have hh := hits_4096 c p.m
    have h := cntOf_le c t r (bump f p.tenant.toNat (hits c (items p.m))) (b + 4096) (by unfold bump; split <;> omega) (by unfold bump; split <;> omega)
    refine ⟨h.1, ?_⟩
    have h2 := h.2
    rw [List.length_cons]
    unfold cntOf at h2 ⊢
    rw [List.foldl_cons]
    omega
def refsF (n : Nat) (f : Nat → Int) : List (Nat × Int) := (List.range n).filterMap fun t => if 0 < f t then some (t, f t) else none
def refE (x : Nat × Int) : List Value := [.int .i64 (x.1 : Int), .int .i64 x.2]
theorem refE_len (x : Nat × Int) : (refE x).length = 2 := rfl
theorem refsF_succ (n : Nat) (f : Nat → Int) : refsF (n + 1) f = refsF n f ++ if 0 < f n then [(n, f n)] else [] := by
  unfold refsF
  rw [List.range_succ, List.filterMap_append]
  by_cases h : 0 < f n <;> simp [h]
def zeroF : Nat → Int := fun _ => 0
/-- How often each tenant refers to a chunk. -/
def cntS (S : SpaceM) (c : Int) : Nat → Int := cntOf S.snaps c (cntOf S.vols c zeroF)
def refsS (S : SpaceM) (c : Int) : List (Nat × Int) := refsF 16 (cntS S c)

/-- In the loops that count: the chunk's box and the counts. -/
structure CntSt (w : World) (K C : Nat) (chunk : Int) (L : List PartM) (f : Nat → Int) (v : Value) (wr : World) : Prop where
  st : ∃ k : Nat, k ≤ L.length ∧ v = .int .i64 (k : Int) ∧ Below w.heap.size w wr ∧ wr.cell? ⟨K, 0, none⟩ = some (.int .i64 chunk) ∧ wr.heap[C]? = some (.cells (cntsC (cntOf (L.take k) chunk f)) TCnt (0, 0))
theorem cntsC_size (f : Nat → Int) : (cntsC f).size = 16 := by simp [cntsC]
theorem infoCnt {c : Array Value} (h : c.size = 16) : (Tryz.prog.info? TCnt).map (·.size) = some c.size := by rw [h]; kernel_rfl
theorem wp_load_cnt {ops : Array Oper} {rest : List Oper} {o : Oper} {a : Act} {Q : Exit → Act → World → Prop} {w : World} {g : Nat} {f : Nat → Int} (hb : w.heap[g]? = some (.cells (cntsC f) TCnt (0, 0))) (hg : o.guard = none) (x : Operand) (ho : o.op = .load TCnt x) (hx : a.eval x = .pointer (some ⟨g, 0, none⟩))
    (k : wpList Tryz.prog ops Q rest (a.put o.dst (.agg (cntsC f))) w) : wpList Tryz.prog ops Q (o :: rest) a w :=
  wpList_load_row hg TCnt x ho g hx TCnt (cntsC f) (0, 0) _ hb Tryz.underlying92 rfl (infoCnt (cntsC_size f)) k
theorem info_ref : (Tryz.prog.info? TRef).map (fun i => (i.zero, i.size, i.bytes)) = some (some (.agg #[.int .i64 0, .int .i64 0]), 2, 16) := by kernel_rfl
theorem run_idx_cnt (f : Nat → Int) {k : Nat} (h : k < 16) (w : World) : (Instr.index TCnt (.agg (cntsC f)) (.int .i64 (k : Int))).run Tryz.prog w = .ok (.int .i64 (f k)) w := by
  have e := cntsC_at f h
  have hk : (k : Int) < 16 := by omega
  simp [Instr.index, run_underlying Tryz.underlying92, asIntOf, go_sem, e]
  intro h2; omega
/-- The loop that lists the counts. -/
structure RefSt (w0 : World) (f : Nat → Int) (v i : Value) (wr : World) : Prop where
  st : ∃ k : Nat, k ≤ 16 ∧ i = .int .i64 (k : Int) ∧ Same w0 wr ∧ Sat wr (ownAt TRef 2 v (refsF k f).length ((refsF k f).flatMap refE) * old w0)
theorem refsF_len (f : Nat → Int) : ∀ n, (refsF n f).length ≤ n
  | 0 => by simp [refsF]
  | n + 1 => by rw [refsF_succ, List.length_append]; have := refsF_len f n; split <;> simp <;> omega
theorem cells16 : #[(Value.int .i64 0), .int .i64 0, .int .i64 0, .int .i64 0, .int .i64 0, .int .i64 0, .int .i64 0, .int .i64 0, .int .i64 0, .int .i64 0, .int .i64 0, .int .i64 0, .int .i64 0, .int .i64 0, .int .i64 0, .int .i64 0] = cntsC zeroF := by rfl

set_option maxRecDepth 20000 in
set_option maxHeartbeats 4000000 in
theorem refsS_any (p : Nat) (S : SpaceM) (chunk : Int) (w : World) (hS : SpaceAt TNode TSp w p S) (hwf : S.WF) :
    Calls Tryz.prog 17 #[.pointer (some ⟨p, 0, none⟩), .int .i64 chunk] w fun e w' => ∃ v, e = .returned v ∧ Hid (Below w.heap.size w w' ∧ RowsAt w' v (refsS S chunk).length ((refsS S chunk).flatMap refE)) := by
  obtain ⟨lv, ls, hlv, hls, ⟨vv, vs, hp, hrv, hrs⟩, hev, hes⟩ := hS
  obtain ⟨ao, cap, rfl, hvx⟩ := id hrv
  obtain ⟨so, scap, rfl, hsx⟩ := id hrs
  obtain ⟨c0, c1, hpl⟩ := sp_cells hp
  have HP := Lib.hid (And.intro hp (And.intro hrv (And.intro hrs (And.intro hev (And.intro hes (And.intro hlv (And.intro hls hwf)))))))
  have hvl : lv.length ≤ 64 := by have := hwf.vlen; rw [← hlv, List.length_map] at this; exact this
  have hsl : ls.length ≤ 256 := by have := hwf.slen; rw [← hls, List.length_map] at this; exact this
  clear hp hrv hrs hev hes hlv hls hwf hvx hsx
  go_enter Tryz.func17, Tryz.ntmps17
  go_wp2
  have hb0 : Below w.heap.size w ((w.alloc (.cells #[.int .i64 chunk] 3)).alloc (.cells (cntsC zeroF) TCnt)) := ((Below.refl _ _).alloc (Nat.le_refl _) _).alloc (by simp) _
  have hk0 : ((w.alloc (.cells #[.int .i64 chunk] 3)).alloc (.cells (cntsC zeroF) TCnt)).cell? ⟨w.heap.size, 0, none⟩ = some (.int .i64 chunk) := cellAlloc _ (cellNew w _ [] _)
  have hc0 : ((w.alloc (.cells #[.int .i64 chunk] 3)).alloc (.cells (cntsC zeroF) TCnt)).heap[w.heap.size + 1]? = some (.cells (cntsC zeroF) TCnt (0, 0)) := by
    have := World.alloc_heap_new (w.alloc (.cells #[.int .i64 chunk] 3)) (.cells (cntsC zeroF) TCnt); rwa [World.size_alloc] at this
  rw [show (Obj.cells #[(Value.int .i64 0), .int .i64 0, .int .i64 0, .int .i64 0, .int .i64 0, .int .i64 0, .int .i64 0, .int .i64 0, .int .i64 0, .int .i64 0, .int .i64 0, .int .i64 0, .int .i64 0, .int .i64 0, .int .i64 0, .int .i64 0] TCnt) = .cells (cntsC zeroF) TCnt from by rw [cells16]]
  generalize ((w.alloc (.cells #[.int .i64 chunk] 3)).alloc (.cells (cntsC zeroF) TCnt)) = W0 at hb0 hk0 hc0 ⊢
  have hst : CntSt w w.heap.size (w.heap.size + 1) chunk S.vols zeroF (.int .i64 ((0 : Nat) : Int)) W0 := ⟨⟨0, by omega, rfl, hb0, hk0, hc0⟩⟩
  have HST := Lib.hid hst
  clear hst hb0 hk0 hc0
  go_loopw [19] (fun v wr => CntSt w w.heap.size (w.heap.size + 1) chunk S.vols zeroF v wr) (fun v _ => lv.length - (intOf v).toNat)
  case atStart => exact HST.out
  case round =>
    obtain ⟨k, hk, rfl, hbw, hkc, hcc⟩ := hrel.st
    clear hrel HST
    by_cases hlt : k < lv.length
    · have hltd : decide ((k : Int) < (lv.length : Int)) = true := decide_eq_true (by omega)
      obtain ⟨x, hx⟩ : ∃ x, lv[k]? = some x := ⟨_, List.getElem?_eq_getElem hlt⟩
      have hxl : S.vols[k]? = some x.1 := by rw [← HP.out.2.2.2.2.2.1, List.getElem?_map, hx]; rfl
      have hN := HP.out.2.2.2.1 x (List.mem_of_getElem? hx)
      have hpw := HP.out.2.2.2.2.2.2.2.vp x.1 (List.mem_of_getElem? hxl)
      obtain ⟨⟨id, ten0, src, m⟩, r⟩ := x
      obtain ⟨⟨h1, h2⟩, _, _⟩ := hpw
      obtain ⟨ten, rfl⟩ := Int.eq_ofNat_of_zero_le h1
      obtain ⟨q, hq⟩ := NodeAt.ptr hN
      obtain rfl : r = .pointer q := hq
      obtain ⟨b, rfl, hb, e0, e1, e2, e3⟩ := vol_cells HP.out.2.1 hx
      have e0 := (hbw.cell (p := ⟨b, k * 4, none⟩) hb).trans e0
      have e1 := (hbw.cell (p := ⟨b, k * 4 + 1, none⟩) hb).trans e1
      have e2 := (hbw.cell (p := ⟨b, k * 4 + 2, none⟩) hb).trans e2
      have e3 := (hbw.cell (p := ⟨b, k * 4 + 3, none⟩) hb).trans e3
      simp only at e0 e1 e2 e3 h2
      have hst16 : ten < 16 := by omega
      have hcn := cntOf_le chunk ten (S.vols.take k) zeroF 0 (Int.le_refl _) (Int.le_refl _)
      have htl : (S.vols.take k).length ≤ 256 := by rw [List.length_take, ← HP.out.2.2.2.2.2.1, List.length_map]; omega
      have hno : ∀ W, Below w.heap.size w W → NodeOk TNode (· < w.heap.size + 1) W 2 (.pointer q) m := fun W hbW => (NodeOk.weaken (ok' := (· < w.heap.size + 1)) (fun j _ hj => by omega) hN).below hbW
      have hnx := cntOf_take hxl chunk zeroF
      have HX := Lib.hid (And.intro hnx hno)
      clear hN hxl hx hnx hno
      go_upto_region 6 with (fail)
      have hkc2 := cellAlloc (.cells #[.int .i64 id, .int .i64 (ten : Int), .pointer q, .int .i64 (cnt m : Int)] 84) hkc
      have hcc2 := (Below.heap_alloc wr (.cells #[.int .i64 id, .int .i64 (ten : Int), .pointer q, .int .i64 (cnt m : Int)] 84) _ (Array.getElem?_eq_some_iff.1 hcc).1).trans hcc
      have h0 := (Sat.old wr).alloc (.cells #[.int .i64 id, .int .i64 (ten : Int), .pointer q, .int .i64 (cnt m : Int)] 84)
      have hbw2 := hbw.alloc hbw.size (.cells #[.int .i64 id, .int .i64 (ten : Int), .pointer q, .int .i64 (cnt m : Int)] 84)
      generalize wr.alloc (.cells #[.int .i64 id, .int .i64 (ten : Int), .pointer q, .int .i64 (cnt m : Int)] 84) = W at h0 hbw2 hkc2 hcc2 ⊢
      generalize wr.heap.size = B at h0 ⊢
      have hcl := cells_at h0.block
      have d0 := hcl 0; have d1 := hcl 1; have d2 := hcl 2; have d3 := hcl 3
      have HC := Lib.hid (count_any w.heap.size (w.heap.size + 1) ten chunk id (cnt m : Int) (.pointer q) m _ W hst16 hcn.1 (by have := hcn.2; omega) hkc2 (by omega) hcc2 (HX.out.2 W hbw2))
      have HB := Lib.hid (And.intro hbw2 hkc2)
      clear hcl h0 hbw2 hkc2 hcc2 e0 e1 e2 e3 hkc hcc hbw hcn htl
      go_wp2_with (go_at_call 52; refine HC.out.mono ?_; rintro e w' ⟨⟨v, rfl⟩, hb', hc'⟩)
      have hbb := HB.out.1.trans (hb'.mono (by omega))
      refine ⟨⟨⟨k + 1, by rw [← HP.out.2.2.2.2.2.1, List.length_map]; omega, rfl, hbb, (hb'.cell (p := ⟨w.heap.size, 0, none⟩) (by simp only; omega)).trans HB.out.2, by rw [HX.out.1]; simpa using hc'⟩⟩, ?_⟩
      simp only [intOf]; omega
    · have hke : k = lv.length := by rw [← HP.out.2.2.2.2.2.1, List.length_map] at hk; omega
      subst hke
      rw [List.take_of_length_le (by rw [← HP.out.2.2.2.2.2.1, List.length_map]; omega)] at hcc
      have hltd : decide ((lv.length : Int) < (lv.length : Int)) = false := decide_eq_false (by omega)
      have c1w := (hbw.cell (p := ⟨p, 1, none⟩) hpl).trans c1
      have hst : CntSt w w.heap.size (w.heap.size + 1) chunk S.snaps (cntOf S.vols chunk zeroF) (.int .i64 ((0 : Nat) : Int)) wr := ⟨⟨0, by omega, rfl, hbw, hkc, by simpa [cntOf] using hcc⟩⟩
      have HST := Lib.hid hst
      have HF := Lib.hid (show ∀ t, 0 ≤ cntOf S.vols chunk zeroF t ∧ cntOf S.vols chunk zeroF t ≤ 262144 from fun t => by
        have h := cntOf_le chunk t S.vols zeroF 0 (Int.le_refl _) (Int.le_refl _)
        have h2 : S.vols.length = lv.length := by rw [← HP.out.2.2.2.2.2.1, List.length_map]
        exact ⟨h.1, by omega⟩)
      clear hst hbw hkc hcc c0 c1
      go_wp2
      clear c1w hltd hlt
      go_loopw [33] (fun v wr => CntSt w w.heap.size (w.heap.size + 1) chunk S.snaps (cntOf S.vols chunk zeroF) v wr) (fun v _ => ls.length - (intOf v).toNat)
      case atStart => exact HST.out
      case round =>
        obtain ⟨k, hk, rfl, hbw, hkc, hcc⟩ := hrel.st
        clear hrel HST
        by_cases hlt : k < ls.length
        · have hltd : decide ((k : Int) < (ls.length : Int)) = true := decide_eq_true (by omega)
          obtain ⟨x, hx⟩ : ∃ x, ls[k]? = some x := ⟨_, List.getElem?_eq_getElem hlt⟩
          have hxl : S.snaps[k]? = some x.1 := by rw [← HP.out.2.2.2.2.2.2.1, List.getElem?_map, hx]; rfl
          have hN := HP.out.2.2.2.2.1 x (List.mem_of_getElem? hx)
          have hpw := HP.out.2.2.2.2.2.2.2.sp x.1 (List.mem_of_getElem? hxl)
          obtain ⟨⟨id, ten0, src, m⟩, r⟩ := x
          obtain ⟨⟨h1, h2⟩, _, _⟩ := hpw
          obtain ⟨ten, rfl⟩ := Int.eq_ofNat_of_zero_le h1
          obtain ⟨q, hq⟩ := NodeAt.ptr hN
          obtain rfl : r = .pointer q := hq
          obtain ⟨b, rfl, hb, e0, e1, e2, e3, e4⟩ := snap_cells HP.out.2.2.1 hx
          have e0 := (hbw.cell (p := ⟨b, k * 5, none⟩) hb).trans e0
          have e1 := (hbw.cell (p := ⟨b, k * 5 + 1, none⟩) hb).trans e1
          have e2 := (hbw.cell (p := ⟨b, k * 5 + 2, none⟩) hb).trans e2
          have e3 := (hbw.cell (p := ⟨b, k * 5 + 3, none⟩) hb).trans e3
          have e4 := (hbw.cell (p := ⟨b, k * 5 + 4, none⟩) hb).trans e4
          simp only at e0 e1 e2 e3 e4 h2
          have hst16 : ten < 16 := by omega
          have hcn := cntOf_le chunk ten (S.snaps.take k) (cntOf S.vols chunk zeroF) 262144 (HF.out ten).1 (HF.out ten).2
          have htl : (S.snaps.take k).length ≤ 256 := by rw [List.length_take, ← HP.out.2.2.2.2.2.2.1, List.length_map]; omega
          have hno : ∀ W, Below w.heap.size w W → NodeOk TNode (· < w.heap.size + 1) W 2 (.pointer q) m := fun W hbW => (NodeOk.weaken (ok' := (· < w.heap.size + 1)) (fun j _ hj => by omega) hN).below hbW
          have hnx := cntOf_take hxl chunk (cntOf S.vols chunk zeroF)
          have HX := Lib.hid (And.intro hnx hno)
          clear hN hxl hx hnx hno
          go_upto_region 11 with (fail)
          have hkc2 := cellAlloc (.cells #[.int .i64 id, .int .i64 (ten : Int), .pointer q, .int .i64 (cnt m : Int), .int .i64 src] 89) hkc
          have hcc2 := (Below.heap_alloc wr (.cells #[.int .i64 id, .int .i64 (ten : Int), .pointer q, .int .i64 (cnt m : Int), .int .i64 src] 89) _ (Array.getElem?_eq_some_iff.1 hcc).1).trans hcc
          have h0 := (Sat.old wr).alloc (.cells #[.int .i64 id, .int .i64 (ten : Int), .pointer q, .int .i64 (cnt m : Int), .int .i64 src] 89)
          have hbw2 := hbw.alloc hbw.size (.cells #[.int .i64 id, .int .i64 (ten : Int), .pointer q, .int .i64 (cnt m : Int), .int .i64 src] 89)
          generalize wr.alloc (.cells #[.int .i64 id, .int .i64 (ten : Int), .pointer q, .int .i64 (cnt m : Int), .int .i64 src] 89) = W at h0 hbw2 hkc2 hcc2 ⊢
          generalize wr.heap.size = B at h0 ⊢
          have hcl := cells_at h0.block
          have d0 := hcl 0; have d1 := hcl 1; have d2 := hcl 2; have d3 := hcl 3
          have HC := Lib.hid (count_any w.heap.size (w.heap.size + 1) ten chunk id (cnt m : Int) (.pointer q) m _ W hst16 hcn.1 (by have := hcn.2; omega) hkc2 (by omega) hcc2 (HX.out.2 W hbw2))
          have HB := Lib.hid (And.intro hbw2 hkc2)
          clear hcl h0 hbw2 hkc2 hcc2 e0 e1 e2 e3 e4 hkc hcc hbw hcn htl
          go_wp2_with (go_at_call 52; refine HC.out.mono ?_; rintro e w' ⟨⟨v, rfl⟩, hb', hc'⟩)
          have hbb := HB.out.1.trans (hb'.mono (by omega))
          refine ⟨⟨⟨k + 1, by rw [← HP.out.2.2.2.2.2.2.1, List.length_map]; omega, rfl, hbb, (hb'.cell (p := ⟨w.heap.size, 0, none⟩) (by simp only; omega)).trans HB.out.2, by rw [HX.out.1]; simpa using hc'⟩⟩, ?_⟩
          simp only [intOf]; omega
        · have hke : k = ls.length := by rw [← HP.out.2.2.2.2.2.2.1, List.length_map] at hk; omega
          subst hke
          rw [List.take_of_length_le (by rw [← HP.out.2.2.2.2.2.2.1, List.length_map]; omega)] at hcc
          have hltd : decide ((ls.length : Int) < (ls.length : Int)) = false := decide_eq_false (by omega)
          have HW := Lib.hid hbw
          have hst : RefSt wr (cntS S chunk) (.slice none 0 0) (.int .i64 ((0 : Nat) : Int)) wr := ⟨⟨0, by omega, rfl, Same.refl wr, ownAt_nil.2 (Sat.old wr)⟩⟩
          have HST := Lib.hid hst
          have hload : wr.heap[w.heap.size + 1]? = some (.cells (cntsC (cntS S chunk)) TCnt (0, 0)) := hcc
          have HPOS := Lib.hid (show ∀ t, cntS S chunk t ≤ 2000000 from fun t => by
            have h := (cntOf_le chunk t S.snaps (cntOf S.vols chunk zeroF) 262144 (HF.out t).1 (HF.out t).2).2
            have h2 : S.snaps.length = ls.length := by rw [← HP.out.2.2.2.2.2.2.1, List.length_map]
            unfold cntS; omega)
          have HEND := Lib.hid (show refsS S chunk = refsF 16 (cntS S chunk) from rfl)
          generalize cntS S chunk = f at hst HST hload HPOS HEND
          obtain ⟨ti, hti, hz0, hts, hz2⟩ := info_parts info_ref
          clear hst hbw hkc hcc hltd hlt HF HP hsl hvl hk
          go_wp2_with ((with_reducible (apply wp_load_cnt hload)); rfl; rfl; rfl)
          go_loopw [4, 43] (fun v i wv => RefSt wr f v i wv) (fun _ i _ => 16 - (intOf i).toNat)
          case atStart => exact HST.out
          case round =>
            obtain ⟨k, hk, rfl, hsm, hs⟩ := hrel.st
            obtain ⟨ra, rc, rfl⟩ := ownAt_slice hs
            have H1 := Lib.hid (And.intro hsm hs)
            clear hrel HST hload hsm hs
            by_cases hk16 : k < 16
            · have hki : (k : Int) < 16 := by omega
              have hat := fun w => run_idx_cnt f hk16 w
              have hps := HPOS.out k
              have hlen := refsF_len f k
              have hsu := refsF_succ k f
              by_cases hp : 0 < f k
              · rw [if_pos hp] at hsu
                have HSU := Lib.hid hsu
                have HLN := Lib.hid hlen
                clear hsu hlen hps
                go_wp2_with (at_builtin; refine wpList_append_ownAt rfl _ _ 44 TRef rfl ti _ Tryz.underlying44 hti hz0 hts hz2 rfl (H1.out.2.allocKeep _) (refE (k, f k)) rfl rfl rfl ?_ (by simp [refE, Value.oneCell']) (by have := HLN.out; unfold maxLen; omega) (by have := HLN.out; omega) ?_)
                · intro j u hu
                  match j, hu with
                  | 0, hu => rw [Addr.add_mid, cells_at (heap_alloc_new _ _)]; simpa [refE] using hu
                  | 1, hu => rw [Addr.add_mid, cells_at (heap_alloc_new _ _)]; simpa [refE] using hu
                intro v' w2 h2
                obtain ⟨ra2, rc2, rfl⟩ := ownAt_slice h2.out.2
                go_wp2
                refine ⟨⟨⟨k + 1, by omega, rfl, (H1.out.1.alloc _).trans h2.out.1, by rw [HSU.out, List.flatMap_append, List.length_append]; simpa using h2.out.2⟩⟩, ?_⟩
                simp only [intOf]; omega
              · rw [if_neg hp, List.append_nil] at hsu
                have HSU := Lib.hid hsu
                have hp0 : f k ≤ 0 := by omega
                clear hsu hlen hps
                go_wp2
                refine ⟨⟨⟨k + 1, by omega, rfl, H1.out.1, by rw [HSU.out]; exact H1.out.2⟩⟩, ?_⟩
                simp only [intOf]; omega
            · obtain rfl : k = 16 := by omega
              go_wp2
              go_ret
              exact ⟨_, rfl, HW.out.trans ((H1.out.1.below_of H1.out.2).mono HW.out.size), by rw [HEND.out]; exact RowsAt.own H1.out.2 (by omega)⟩
end Go.Proofs.YtednjhlkhecihaaGreatDoor
