/- A specified space whose lists of mappings may begin anywhere in a block: at, Content, Image, Volumes, All; maps; same. Printed by yb.py. -/
import Derived.Test.YtednjhlkhecihaaYa
import Derived.Test.YtednjhlkhecihaaWc
import Derived.Test.YtednjhlkhecihaaWe
import Derived.BigQuiet
namespace Go.Proofs.Ytednjhlkhecihaa
open Go.RowKit Go.Vol Go.Sl

def MapRowO (w : World) (x : ElM) : Prop := RowsO w x.2 (items x.1.m).length ((items x.1.m).flatMap refE)
def RefLO (w : World) (v : Value) (L : List PartM) : Prop := ∃ l : List ElM, l.map Prod.fst = L ∧ RowK (fun _ => True) w v l.length (l.flatMap rpE) ∧ ∀ x ∈ l, MapRowO w x
structure RefAtO (w : World) (vv vs : Value) (S : SpaceM) : Prop where
  v : RefLO w vv S.vols
  s : RefLO w vs S.snaps
theorem RefLO.below {w w' : World} {v : Value} {L : List PartM} (h : RefLO w v L) (hb : Below w.heap.size w w') : RefLO w' v L := by
  obtain ⟨l, h1, h2, h3⟩ := h
  exact ⟨l, h1, h2.below hb, fun x hx => RowsO.below (h3 x hx) hb⟩
theorem RefAtO.below {w w' : World} {vv vs : Value} {S : SpaceM} (h : RefAtO w vv vs S) (hb : Below w.heap.size w w') : RefAtO w' vv vs S := ⟨h.v.below hb, h.s.below hb⟩
theorem RefLO.slice {w : World} {v : Value} {L : List PartM} (h : RefLO w v L) : ∃ a c, v = .slice a L.length c ∧ L.length ≤ c ∧ c ≤ maxLen := by
  obtain ⟨l, rfl, ⟨a, c, rfl, h2, h3, _⟩, _⟩ := h
  rw [List.length_map]
  exact ⟨a, c, rfl, h2.1, h3⟩
theorem part_atO {w : World} {va : Option Addr} {n vc k : Nat} {L : List PartM} {p : PartM} (h : RefLO w (.slice va n vc) L) (hk : L[k]? = some p) : ∃ (g : Nat) (pa : Option Addr) (pc : Nat), va = some ⟨g, 0, none⟩ ∧ g < w.heap.size ∧
    w.cell? ⟨g, k * 4, none⟩ = some (.int .i64 p.id) ∧ w.cell? ⟨g, k * 4 + 1, none⟩ = some (.int .i64 p.tenant) ∧ w.cell? ⟨g, k * 4 + 2, none⟩ = some (.int .i64 p.src) ∧ w.cell? ⟨g, k * 4 + 3, none⟩ = some (.slice pa (items p.m).length pc) ∧ RowsO w (.slice pa (items p.m).length pc) (items p.m).length ((items p.m).flatMap refE) := by
  obtain ⟨l, hl, hr, hm⟩ := h
  subst hl
  rw [List.getElem?_map] at hk
  obtain ⟨x, hx, rfl⟩ := Option.map_eq_some_iff.1 hk
  obtain ⟨g, e, hg, c0, c1, c2, c3⟩ := rp_cells hr.rows hx
  have hrow := hm x (List.mem_of_getElem? hx)
  unfold MapRowO at hrow
  obtain ⟨pa, pc, hs, _⟩ := id hrow
  rw [hs] at c3 hrow
  exact ⟨g, pa, pc, e, hg, c0, c1, c2, c3, hrow⟩
theorem ro_cells {w : World} {ao : Option Addr} {n cap : Nat} {l : List (Nat × Int)} {i : Nat} {x : Nat × Int} (h : RowsO w (.slice ao n cap) l.length (l.flatMap refE)) (hx : l[i]? = some x) : ∃ b off : Nat, ao = some ⟨b, off, none⟩ ∧ b < w.heap.size ∧
    w.cell? ⟨b, off + i * 2, none⟩ = some (.int .i64 (x.1 : Int)) ∧ w.cell? ⟨b, off + i * 2 + 1, none⟩ = some (.int .i64 x.2) := by
  obtain ⟨ao', cap', e, _, h4⟩ := h
  obtain ⟨b, off, hb, hlt, hc⟩ := h4 (by have := (List.getElem?_eq_some_iff.1 hx).1; omega)
  simp only [Value.slice.injEq] at e
  refine ⟨b, off, e.1.trans hb, hlt, ?_, ?_⟩
  · have := hc _ _ (flat_at refE_len l i x hx 0 _ rfl); rwa [Nat.add_zero] at this
  · have := hc _ _ (flat_at refE_len l i x hx 1 _ rfl); rwa [← Nat.add_assoc] at this

set_option maxRecDepth 20000 in
set_option maxHeartbeats 1000000 in
theorem maps_anyO (va vb : Value) (A B : List (Nat × Int)) (w : World) (ha : RowsAt w va A.length (A.flatMap refE)) (hb : RowsO w vb B.length (B.flatMap refE)) :
    Calls Try.prog 20 #[va, vb] w fun e w' => e = .returned (.bool (decide (A = B))) ∧ Below w.heap.size w w' := by
  obtain ⟨aa, ca, rfl, _, hma, _⟩ := id ha
  obtain ⟨ab, cb, rfl, hmb, _⟩ := id hb
  unfold maxLen at hma hmb
  have HA := Lib.hid (And.intro ha hb)
  by_cases hl : A.length = B.length
  · have hq : ((A.length : Int) != (B.length : Int)) = false := by simp; omega
    have hA0 : A.length ≤ 9223372036854775807 := by obtain ⟨_, _, e, ⟨h, _⟩, _⟩ := ha; simp only [Value.slice.injEq] at e; omega
    have HL := Lib.hid hl
    clear ha hb hma hmb
    go_enter Try.func20, Try.ntmps20
    go_wp2
    go_loopw [5] (fun i wr => EqSt w A B i wr) (fun i _ => A.length - (intOf i).toNat)
    case atStart => exact ⟨⟨0, Nat.zero_le _, rfl, rfl, Below.refl _ _⟩⟩
    case round =>
      obtain ⟨k, hk, rfl, htk, hbw⟩ := hrel.st
      clear hrel
      have HT := Lib.hid (And.intro htk hbw)
      by_cases hlt : k < A.length
      · have hltd : decide ((k : Int) < (A.length : Int)) = true := decide_eq_true (by omega)
        have hlt2 : k < B.length := by omega
        have hki : (k : Int) ≤ 9223372036854775806 := by omega
        obtain ⟨x, hx⟩ : ∃ x, A[k]? = some x := ⟨_, List.getElem?_eq_getElem hlt⟩
        obtain ⟨y, hy⟩ : ∃ y, B[k]? = some y := ⟨_, List.getElem?_eq_getElem hlt2⟩
        obtain ⟨g, rfl, hg, c0, c1⟩ := ref_cells HA.out.1 hx
        obtain ⟨g2, o2, rfl, hg2, e0, e1⟩ := ro_cells HA.out.2 hy
        have c0 := (hbw.cell (p := ⟨g, k * 2, none⟩) hg).trans c0
        have c1 := (hbw.cell (p := ⟨g, k * 2 + 1, none⟩) hg).trans c1
        have e0 := (hbw.cell (p := ⟨g2, o2 + k * 2, none⟩) hg2).trans e0
        have e1 := (hbw.cell (p := ⟨g2, o2 + k * 2 + 1, none⟩) hg2).trans e1
        obtain ⟨x0, x1⟩ := x
        obtain ⟨y0, y1⟩ := y
        simp only at c0 c1 e0 e1
        have HX := Lib.hid (And.intro hx hy)
        have hz0 : ((x0 : Int) == (y0 : Int)) = decide (x0 = y0) := by
          by_cases h : x0 = y0
          · simp [h]
          · rw [decide_eq_false h]; simp; omega
        have hz1 : (x1 == y1) = decide (x1 = y1) := rfl
        clear hx hy htk hbw hg hg2
        by_cases h0 : x0 = y0
        · rw [decide_eq_true h0] at hz0
          by_cases h1 : x1 = y1
          · rw [decide_eq_true h1] at hz1
            have HE := Lib.hid (And.intro h0 h1)
            clear h0 h1
            go_upto_region 6 with (fail)
            go_quiet (fail)
            go_wp2
            refine ⟨⟨⟨k + 1, by omega, rfl, ?_, HT.out.2.drewN _⟩⟩, by simp only [intOf]; omega⟩
            rw [List.take_add_one, List.take_add_one, HT.out.1, HX.out.1, HX.out.2, HE.out.1, HE.out.2]
          · rw [decide_eq_false h1] at hz1
            have HE := Lib.hid h1
            clear h0 h1
            go_upto_region 6 with (fail)
            go_quiet (fail)
            go_wp2
            go_ret
            rw [show decide (A = B) = false from decide_eq_false (by rintro rfl; have h2 := HX.out.1; rw [HX.out.2] at h2; injection h2 with h2; injection h2 with h3 h4; exact HE.out h4.symm)]
            exact ⟨rfl, HT.out.2.drewN _⟩
        · rw [decide_eq_false h0] at hz0
          have HE := Lib.hid h0
          clear h0
          go_upto_region 6 with (fail)
          go_quiet (fail)
          go_wp2
          go_ret
          rw [show decide (A = B) = false from decide_eq_false (by rintro rfl; have h2 := HX.out.1; rw [HX.out.2] at h2; injection h2 with h2; injection h2 with h3 h4; exact HE.out h3.symm)]
          exact ⟨rfl, HT.out.2.drewN _⟩
      · have hke : k = A.length := by omega
        have hltd : decide ((k : Int) < (A.length : Int)) = false := decide_eq_false (by omega)
        clear htk hbw
        go_wp2
        go_ret
        have hd : decide (A = B) = true := decide_eq_true (by have := HT.out.1; rwa [hke, List.take_length, HL.out, List.take_length] at this)
        rw [hd]
        exact ⟨rfl, HT.out.2⟩
  · have hq : ((A.length : Int) != (B.length : Int)) = true := by simp; omega
    have hd : decide (A = B) = false := decide_eq_false (by rintro rfl; exact hl rfl)
    rw [hd]
    clear hl hd ha hb
    go_enter Try.func20, Try.ntmps20
    go_wp2
    go_ret
    exact ⟨rfl, Below.refl _ _⟩
set_option maxHeartbeats 1000000 in
theorem rat_anyO (v : Value) (L : List PartM) (ide : Int) (w : World) (hv : RefLO w v L) :
    Calls Try.prog 88 #[v, .int .i64 ide] w fun e w' => e = .returned (.int .i64 (atP L ide)) ∧ Below w.heap.size w w' := by
  obtain ⟨l, hl, hr, hm⟩ := hv
  obtain ⟨ao, cap, rfl, hcap, hmax, _⟩ := id hr
  replace hr := hr.rows
  unfold maxLen at hmax
  have hll : l.length = L.length := by rw [← hl, List.length_map]
  have hb63 : l.length ≤ 9223372036854775807 := by omega
  have HR := Lib.hid (And.intro hr (And.intro hl hll))
  clear hr hm hl hll hcap hmax
  go_enter Try.func88, Try.ntmps88
  go_wp2
  go_loopw [5] (fun i wr => AtSt w L ide i wr) (fun i _ => l.length - (intOf i).toNat)
  case atStart => exact ⟨⟨0, Nat.zero_le _, rfl, Nat.zero_le _, Below.refl _ _⟩⟩
  case round =>
    obtain ⟨k, hk, rfl, hka, hbw⟩ := hrel.st
    clear hrel
    rw [← HR.out.2.2] at hk
    have HB := Lib.hid hbw
    by_cases hlt : k < l.length
    · have hltd : decide ((k : Int) < (l.length : Int)) = true := decide_eq_true (by omega)
      have hki : (k : Int) ≤ 9223372036854775806 := by omega
      obtain ⟨x, hx⟩ : ∃ x, l[k]? = some x := ⟨_, List.getElem?_eq_getElem hlt⟩
      have hxl : L[k]? = some x.1 := by rw [← HR.out.2.1, List.getElem?_map, hx]; rfl
      obtain ⟨g, rfl, hg, e0, _, _, _⟩ := rp_cells HR.out.1 hx
      have e0 := (hbw.cell (p := ⟨g, k * 4, none⟩) hg).trans e0
      have hst := atN_step hxl hka
      by_cases hid : x.1.id = ide
      · have HI := Lib.hid (show atP L ide = (k : Int) by unfold atP; rw [hst.1 hid, if_pos (by rw [← HR.out.2.2]; exact hlt)])
        have hidd : (x.1.id == ide) = true := by simpa using hid
        clear hst hid hx hxl hbw hka
        go_wp2
        go_ret
        exact ⟨by rw [HI.out]; rfl, HB.out⟩
      · have HI := Lib.hid (hst.2 hid)
        have hidd : (x.1.id == ide) = false := by simpa using hid
        clear hst hid hx hxl hbw hka
        go_wp2
        refine ⟨⟨⟨k + 1, by rw [← HR.out.2.2]; omega, by rw [Int.natCast_add]; rfl, HI.out, HB.out⟩⟩, by simp only [intOf]; omega⟩
    · have hke : k = l.length := by omega
      have hltd : decide ((k : Int) < (l.length : Int)) = false := decide_eq_false (by omega)
      have HI := Lib.hid (show atP L ide = -1 by unfold atP; rw [if_neg (by rw [← HR.out.2.2]; omega)])
      clear hbw hka
      go_wp2
      go_ret
      exact ⟨by rw [HI.out]; rfl, HB.out⟩

set_option maxRecDepth 20000 in
set_option maxHeartbeats 4000000 in
theorem rcont_anyO (vv vs : Value) (S : SpaceM) (id : Int) (w : World) (hS : RefAtO w vv vs S) (hl : S.vols.length ≤ 1000) :
    Calls Try.prog 61 #[.agg #[vv, vs], .int .i64 id] w fun e w' => ∃ r, e = .returned (.tuple #[r, .int .i64 (contM S id).2]) ∧ Hid (Below w.heap.size w w' ∧ RowsO w' r (contM S id).1.length ((contM S id).1.flatMap refE)) := by
  obtain ⟨va, vc, rfl, hvc, hvm⟩ := hS.v.slice
  obtain ⟨sa, sc, rfl, hsc, hsm⟩ := hS.s.slice
  have HS := Lib.hid hS
  have hb0 := (Below.refl w.heap.size w).alloc (Nat.le_refl _) (.cells #[.slice va S.vols.length vc, .slice sa S.snaps.length sc] TRS)
  have hblk := heap_alloc_new w (.cells #[.slice va S.vols.length vc, .slice sa S.snaps.length sc] TRS)
  have HAT := Lib.hid (rat_anyO (.slice va S.vols.length vc) S.vols id (w.alloc (.cells #[.slice va S.vols.length vc, .slice sa S.snaps.length sc] TRS)) (hS.v.below hb0))
  rcases atP_cases S.vols id with ⟨hn, hi⟩ | ⟨p, hp, hi, hlt, hid⟩
  · have HM := Lib.hid (show contM S id = ([], 12) by unfold contM volF; rw [← atN_find, hn])
    rw [hi] at HAT
    have HB := Lib.hid hb0
    clear hS hvc hvm hsc hsm hb0 hblk hn hi
    go_enter Try.func61, Try.ntmps61
    go_wp2_with (go_at_call 88; refine HAT.out.mono ?_; rintro e W2 ⟨rfl, h2⟩)
    go_ret2
    refine ⟨_, by rw [HM.out]; rfl, HB.out.trans (h2.mono HB.out.size), ?_⟩
    rw [HM.out]
    exact RowsO.of (RowsAt.nil _)
  · have HM := Lib.hid (show contM S id = (items p.m, 0) by unfold contM volF; rw [← atN_find, hp])
    rw [hi] at HAT
    obtain ⟨g, pa, pc, rfl, hg, e0, e1, e2, e3, hrow⟩ := part_atO hS.v hp
    have HE := Lib.hid (And.intro hg (And.intro e3 (And.intro hrow (And.intro hblk hb0))))
    generalize hk : atN S.vols id = k at *
    have hneg : decide ((k : Int) < 0) = false := decide_eq_false (by omega)
    have hk63 : (k : Int) ≤ 1000 := by omega
    clear hS hvc hvm hsc hsm hb0 hblk hp hi hid hk e0 e1 e2 e3 hrow hg
    go_enter Try.func61, Try.ntmps61
    go_upto_region 4 with (go_at_call 88; refine HAT.out.mono ?_; rintro e W2 ⟨rfl, h2⟩)
    have hbk := (h2.block _ (Array.getElem?_eq_some_iff.1 HE.out.2.2.2.1).1).trans HE.out.2.2.2.1
    have c0 := cells_at hbk 0; have c1 := cells_at hbk 1
    have hbw := HE.out.2.2.2.2.trans (h2.mono HE.out.2.2.2.2.size)
    have e3 := (hbw.cell (p := ⟨g, k * 4 + 3, none⟩) HE.out.1).trans HE.out.2.1
    have HBW := Lib.hid hbw
    clear hbw hbk h2
    go_wp2
    go_ret2
    refine ⟨_, by rw [HM.out]; rfl, HBW.out, ?_⟩
    rw [HM.out]
    exact HE.out.2.2.1.below HBW.out

set_option maxRecDepth 20000 in
set_option maxHeartbeats 4000000 in
theorem rimg_anyO (vv vs : Value) (S : SpaceM) (id : Int) (w : World) (hS : RefAtO w vv vs S) (hl : S.snaps.length ≤ 1000) :
    Calls Try.prog 62 #[.agg #[vv, vs], .int .i64 id] w fun e w' => ∃ r, e = .returned (.tuple #[r, .int .i64 (imageM S id).2]) ∧ Hid (Below w.heap.size w w' ∧ RowsO w' r (imageM S id).1.length ((imageM S id).1.flatMap refE)) := by
  obtain ⟨va, vc, rfl, hvc, hvm⟩ := hS.v.slice
  obtain ⟨sa, sc, rfl, hsc, hsm⟩ := hS.s.slice
  have HS := Lib.hid hS
  have hb0 := (Below.refl w.heap.size w).alloc (Nat.le_refl _) (.cells #[.slice va S.vols.length vc, .slice sa S.snaps.length sc] TRS)
  have hblk := heap_alloc_new w (.cells #[.slice va S.vols.length vc, .slice sa S.snaps.length sc] TRS)
  have HAT := Lib.hid (rat_anyO (.slice sa S.snaps.length sc) S.snaps id (w.alloc (.cells #[.slice va S.vols.length vc, .slice sa S.snaps.length sc] TRS)) (hS.s.below hb0))
  rcases atP_cases S.snaps id with ⟨hn, hi⟩ | ⟨p, hp, hi, hlt, hid⟩
  · have HM := Lib.hid (show imageM S id = ([], 12) by unfold imageM snapF; rw [← atN_find, hn])
    rw [hi] at HAT
    have HB := Lib.hid hb0
    clear hS hvc hvm hsc hsm hb0 hblk hn hi
    go_enter Try.func62, Try.ntmps62
    go_wp2_with (go_at_call 88; refine HAT.out.mono ?_; rintro e W2 ⟨rfl, h2⟩)
    go_ret2
    refine ⟨_, by rw [HM.out]; rfl, HB.out.trans (h2.mono HB.out.size), ?_⟩
    rw [HM.out]
    exact RowsO.of (RowsAt.nil _)
  · have HM := Lib.hid (show imageM S id = (items p.m, 0) by unfold imageM snapF; rw [← atN_find, hp])
    rw [hi] at HAT
    obtain ⟨g, pa, pc, rfl, hg, e0, e1, e2, e3, hrow⟩ := part_atO hS.s hp
    have HE := Lib.hid (And.intro hg (And.intro e3 (And.intro hrow (And.intro hblk hb0))))
    generalize hk : atN S.snaps id = k at *
    have hneg : decide ((k : Int) < 0) = false := decide_eq_false (by omega)
    have hk63 : (k : Int) ≤ 1000 := by omega
    clear hS hvc hvm hsc hsm hb0 hblk hp hi hid hk e0 e1 e2 e3 hrow hg
    go_enter Try.func62, Try.ntmps62
    go_upto_region 4 with (go_at_call 88; refine HAT.out.mono ?_; rintro e W2 ⟨rfl, h2⟩)
    have hbk := (h2.block _ (Array.getElem?_eq_some_iff.1 HE.out.2.2.2.1).1).trans HE.out.2.2.2.1
    have c0 := cells_at hbk 0; have c1 := cells_at hbk 1
    have hbw := HE.out.2.2.2.2.trans (h2.mono HE.out.2.2.2.2.size)
    have e3 := (hbw.cell (p := ⟨g, k * 4 + 3, none⟩) HE.out.1).trans HE.out.2.1
    have HBW := Lib.hid hbw
    clear hbw hbk h2
    go_wp2
    go_ret2
    refine ⟨_, by rw [HM.out]; rfl, HBW.out, ?_⟩
    rw [HM.out]
    exact HE.out.2.2.1.below HBW.out

structure RvSt (w : World) (T : TypeId) (n : Nat) (enc : PartM → List Value) (B : Nat) (a b : Value) (L : List PartM) (v i : Value) (wr : World) : Prop where
  st : ∃ k : Nat, k ≤ L.length ∧ i = .int .i64 (k : Int) ∧ Same w wr ∧ Sat wr (ownAt T n v k ((L.take k).flatMap enc) * (pts B (.cells #[a, b] TRS (0, 0)) * old w))

set_option maxRecDepth 20000 in
set_option maxHeartbeats 4000000 in
theorem rvols_anyO (vv vs : Value) (S : SpaceM) (w : World) (hS : RefAtO w vv vs S) (hl : S.vols.length ≤ 1000) :
    Calls Try.prog 59 #[.agg #[vv, vs]] w fun e w' => ∃ r, e = .returned r ∧ Hid (Below w.heap.size w w' ∧ RowsAt w' r S.vols.length (S.vols.flatMap viE)) := by
  obtain ⟨va, vc, rfl, hvc, hvm⟩ := hS.v.slice
  obtain ⟨sa, sc, rfl, hsc, hsm⟩ := hS.s.slice
  have HS := Lib.hid hS
  have h0 := (Sat.old w).alloc (.cells #[.slice va S.vols.length vc, .slice sa S.snaps.length sc] TRS)
  have hs0 := (Same.refl w).alloc (.cells #[.slice va S.vols.length vc, .slice sa S.snaps.length sc] TRS)
  have H0 := Lib.hid (And.intro hs0 h0)
  obtain ⟨ti, hti, hz0, hts, hz2⟩ := info_parts info_vi
  clear hS hvc hvm hsc hsm h0 hs0
  go_enter Try.func59, Try.ntmps59
  go_upto_region 3 with (fail)
  generalize w.alloc (.cells #[.slice va S.vols.length vc, .slice sa S.snaps.length sc] TRS) = W0 at H0 ⊢
  generalize hBB : w.heap.size = B at H0 ⊢
  go_wp2
  go_loopw [3, 4] (fun v i wr => RvSt w TVi 3 viE B (.slice va S.vols.length vc) (.slice sa S.snaps.length sc) S.vols v i wr) (fun _ i _ => S.vols.length - (intOf i).toNat)
  case atStart => exact ⟨⟨0, Nat.zero_le _, rfl, H0.out.1, ownAt_nil.2 H0.out.2⟩⟩
  case round =>
    obtain ⟨k, hk, rfl, hsm, hs⟩ := hrel.st
    clear hrel
    obtain ⟨ra, rc, rfl⟩ := ownAt_slice hs
    have hbw := hsm.below_of (hs.perm (star_assoc _ _ _).symm)
    have c0 := cells_at hs.right.block 0; have c1 := cells_at hs.right.block 1
    have H1 := Lib.hid (And.intro hsm hs)
    clear hsm hs
    by_cases hlt : k < S.vols.length
    · have hltd : decide ((k : Int) < (S.vols.length : Int)) = true := decide_eq_true (by omega)
      have hki : (k : Int) ≤ 1000 := by omega
      obtain ⟨p, hp⟩ : ∃ p, S.vols[k]? = some p := ⟨_, List.getElem?_eq_getElem hlt⟩
      obtain ⟨g, pa, pc, rfl, hg, e0, e1, e2, e3, _⟩ := part_atO HS.out.v hp
      have e0 := (hbw.cell (p := ⟨g, k * 4, none⟩) hg).trans e0
      have e1 := (hbw.cell (p := ⟨g, k * 4 + 1, none⟩) hg).trans e1
      have e2 := (hbw.cell (p := ⟨g, k * 4 + 2, none⟩) hg).trans e2
      have e3 := (hbw.cell (p := ⟨g, k * 4 + 3, none⟩) hg).trans e3
      have HX := Lib.hid (And.intro hp (And.intro hg hbw))
      have hik : (items p.m).length = cnt p.m := items_len p.m
      have HIK := Lib.hid hik
      clear hp hik
      go_upto_region 5 with (fail)
      have hg2 := hg
      have H2 := H1
      clear c0 c1 e0 e1 e2 e3 H1 hbw hg2
      have hcl : ∀ W, Below w.heap.size w W → W.cell? ⟨g, k * 4, none⟩ = some (.int .i64 p.id) ∧ W.cell? ⟨g, k * 4 + 1, none⟩ = some (.int .i64 p.tenant) ∧ W.cell? ⟨g, k * 4 + 3, none⟩ = some (.slice pa (items p.m).length pc) := fun W hb => by
        obtain ⟨g', pa', pc', e, hg', x0, x1, x2, x3, _⟩ := part_atO HS.out.v HX.out.1
        simp only [Option.some.injEq, Addr.mk.injEq, and_true] at e
        subst e
        have q0 := ‹w.cell? ⟨g, k * 4 + 3, none⟩ = some (.slice pa (items p.m).length pc)›
        exact ⟨(hb.cell (p := ⟨g, k * 4, none⟩) hg').trans x0, (hb.cell (p := ⟨g, k * 4 + 1, none⟩) hg').trans x1, (hb.cell (p := ⟨g, k * 4 + 3, none⟩) hg').trans q0⟩
      have HCL := Lib.hid hcl
      clear hcl
      have hb0 := (H2.out.1.drew).below_of ((H2.out.2.drew).perm (star_assoc _ _ _).symm)
      have hS0 : wr.drew.cell? ⟨B, 0, none⟩ = some (.slice (some ⟨g, 0, none⟩) S.vols.length vc) ∧ wr.drew.cell? ⟨g, k * 4, none⟩ = some (.int .i64 p.id) ∧ wr.drew.cell? ⟨g, k * 4 + 1, none⟩ = some (.int .i64 p.tenant) ∧ wr.drew.cell? ⟨g, k * 4 + 3, none⟩ = some (.slice pa (items p.m).length pc) := ⟨cells_at H2.out.2.drew.right.block 0, HCL.out _ hb0⟩
      refine reg_begin (fun w' => w'.cell? ⟨B, 0, none⟩ = some (.slice (some ⟨g, 0, none⟩) S.vols.length vc) ∧ w'.cell? ⟨g, k * 4, none⟩ = some (.int .i64 p.id) ∧ w'.cell? ⟨g, k * 4 + 1, none⟩ = some (.int .i64 p.tenant) ∧ w'.cell? ⟨g, k * 4 + 3, none⟩ = some (.slice pa (items p.m).length pc)) (by kernel_rfl) ?_
      (apply reg_take 0 rfl rfl (by decide +kernel) rfl); (rintro w' ⟨h1, h2, h3, h4⟩; go_simp; rfl); exact hS0; simp only [List.setIfInBounds_toArray, List.set_cons_succ, List.set_cons_zero]
      (apply reg_take 1 rfl rfl (by decide +kernel) rfl); (rintro w' ⟨h1, h2, h3, h4⟩; go_simp; rfl); exact hS0; simp only [List.setIfInBounds_toArray, List.set_cons_succ, List.set_cons_zero]
      (apply reg_take 2 rfl rfl (by decide +kernel) rfl); (rintro w' ⟨h1, h2, h3, h4⟩; go_simp; rfl); exact hS0; simp only [List.setIfInBounds_toArray, List.set_cons_succ, List.set_cons_zero]
      (apply reg_take 3 rfl rfl (by decide +kernel) rfl); (rintro w' ⟨h1, h2, h3, h4⟩; go_simp; rfl); exact hS0; simp only [List.setIfInBounds_toArray, List.set_cons_succ, List.set_cons_zero]
      (apply reg_take 4 rfl rfl (by decide +kernel) rfl); (rintro w' ⟨h1, h2, h3, h4⟩; go_simp; rfl); exact hS0; simp only [List.setIfInBounds_toArray, List.set_cons_succ, List.set_cons_zero]
      (apply reg_take 5 rfl rfl (by decide +kernel) rfl); (rintro w' ⟨h1, h2, h3, h4⟩; go_simp; rfl); exact hS0; simp only [List.setIfInBounds_toArray, List.set_cons_succ, List.set_cons_zero]
      (apply reg_take 6 rfl rfl (by decide +kernel) rfl); (rintro w' ⟨h1, h2, h3, h4⟩; go_simp; rfl); exact hS0; simp only [List.setIfInBounds_toArray, List.set_cons_succ, List.set_cons_zero]
      (apply reg_take 7 rfl rfl (by decide +kernel) rfl); (rintro w' ⟨h1, h2, h3, h4⟩; go_simp; rfl); exact hS0; simp only [List.setIfInBounds_toArray, List.set_cons_succ, List.set_cons_zero]
      (apply reg_take 8 rfl rfl (by decide +kernel) rfl); (rintro w' ⟨h1, h2, h3, h4⟩; go_simp; rfl); exact hS0; simp only [List.setIfInBounds_toArray, List.set_cons_succ, List.set_cons_zero]
      (apply reg_take 9 rfl rfl (by decide +kernel) rfl); (rintro w' ⟨h1, h2, h3, h4⟩; go_simp; rfl); exact hS0; simp only [List.setIfInBounds_toArray, List.set_cons_succ, List.set_cons_zero]
      (apply reg_take 10 rfl rfl (by decide +kernel) rfl); (rintro w' ⟨h1, h2, h3, h4⟩; go_simp; rfl); exact hS0; simp only [List.setIfInBounds_toArray, List.set_cons_succ, List.set_cons_zero]
      (apply reg_take 11 rfl rfl (by decide +kernel) rfl); (rintro w' ⟨h1, h2, h3, h4⟩; go_simp; rfl); exact hS0; simp only [List.setIfInBounds_toArray, List.set_cons_succ, List.set_cons_zero]
      (apply reg_take 12 rfl rfl (by decide +kernel) rfl); (rintro w' ⟨h1, h2, h3, h4⟩; go_simp; rfl); exact hS0; simp only [List.setIfInBounds_toArray, List.set_cons_succ, List.set_cons_zero]
      (apply reg_take 13 rfl rfl (by decide +kernel) rfl); (rintro w' ⟨h1, h2, h3, h4⟩; go_simp; rfl); exact hS0; simp only [List.setIfInBounds_toArray, List.set_cons_succ, List.set_cons_zero]
      (apply reg_take 14 rfl rfl (by decide +kernel) rfl); (rintro w' ⟨h1, h2, h3, h4⟩; go_simp; rfl); exact hS0; simp only [List.setIfInBounds_toArray, List.set_cons_succ, List.set_cons_zero]
      (apply reg_take 15 rfl rfl (by decide +kernel) rfl); (rintro w' ⟨h1, h2, h3, h4⟩; go_simp; rfl); exact hS0; simp only [List.setIfInBounds_toArray, List.set_cons_succ, List.set_cons_zero]
      (apply reg_take 16 rfl rfl (by decide +kernel) rfl); (rintro w' ⟨h1, h2, h3, h4⟩; go_simp; rfl); exact hS0; simp only [List.setIfInBounds_toArray, List.set_cons_succ, List.set_cons_zero]
      (apply reg_take 17 rfl rfl (by decide +kernel) rfl); (rintro w' ⟨h1, h2, h3, h4⟩; go_simp; rfl); exact hS0; simp only [List.setIfInBounds_toArray, List.set_cons_succ, List.set_cons_zero]
      (apply reg_take 18 rfl rfl (by decide +kernel) rfl); (rintro w' ⟨h1, h2, h3, h4⟩; go_simp; rfl); exact hS0; simp only [List.setIfInBounds_toArray, List.set_cons_succ, List.set_cons_zero]
      (apply reg_take 19 rfl rfl (by decide +kernel) rfl); (rintro w' ⟨h1, h2, h3, h4⟩; go_simp; rfl); exact hS0; simp only [List.setIfInBounds_toArray, List.set_cons_succ, List.set_cons_zero]
      (apply reg_take 20 rfl rfl (by decide +kernel) rfl); (rintro w' ⟨h1, h2, h3, h4⟩; go_simp; rfl); exact hS0; simp only [List.setIfInBounds_toArray, List.set_cons_succ, List.set_cons_zero]
      have hA4 := H2.out.2.drew.alloc (.cells #[.int .i64 p.id, .int .i64 p.tenant, .int .i64 ((items p.m).length : Int)] TVi)
      have hsm4 := H2.out.1.drew.alloc (.cells #[.int .i64 p.id, .int .i64 p.tenant, .int .i64 ((items p.m).length : Int)] TVi)
      have hb4 := hsm4.below_of (hA4.perm (show _ = (pts wr.drew.heap.size (.cells #[.int .i64 p.id, .int .i64 p.tenant, .int .i64 ((items p.m).length : Int)] TVi (0, 0)) * (ownAt TVi 3 (.slice ra k rc) k ((S.vols.take k).flatMap viE) * pts B (.cells #[.slice (some ⟨g, 0, none⟩) S.vols.length vc, .slice sa S.snaps.length sc] TRS (0, 0)))) * old w from by ac_rfl))
      have hS4 : (wr.drew.alloc (.cells #[.int .i64 p.id, .int .i64 p.tenant, .int .i64 ((items p.m).length : Int)] TVi)).cell? ⟨B, 0, none⟩ = some (.slice (some ⟨g, 0, none⟩) S.vols.length vc) ∧ (wr.drew.alloc (.cells #[.int .i64 p.id, .int .i64 p.tenant, .int .i64 ((items p.m).length : Int)] TVi)).cell? ⟨g, k * 4, none⟩ = some (.int .i64 p.id) ∧ (wr.drew.alloc (.cells #[.int .i64 p.id, .int .i64 p.tenant, .int .i64 ((items p.m).length : Int)] TVi)).cell? ⟨g, k * 4 + 1, none⟩ = some (.int .i64 p.tenant) ∧ (wr.drew.alloc (.cells #[.int .i64 p.id, .int .i64 p.tenant, .int .i64 ((items p.m).length : Int)] TVi)).cell? ⟨g, k * 4 + 3, none⟩ = some (.slice pa (items p.m).length pc) := ⟨cells_at hA4.right.right.block 0, HCL.out _ hb4⟩
      refine reg_run 21 (.slice (some ⟨wr.drew.heap.size, 0, none⟩) 1 1) (wr.drew.alloc (.cells #[.int .i64 p.id, .int .i64 p.tenant, .int .i64 ((items p.m).length : Int)] TVi)) rfl rfl (by decide +kernel) rfl (by go_simp) (hS4) ?_; simp only [List.setIfInBounds_toArray, List.set_cons_succ, List.set_cons_zero]
      have hA5 := hA4.perm (show _ = ownAt TVi 3 (.slice ra k rc) k ((S.vols.take k).flatMap viE) * (pts wr.drew.heap.size (.cells #[.int .i64 p.id, .int .i64 p.tenant, .int .i64 ((items p.m).length : Int)] TVi (0, 0)) * (pts B (.cells #[.slice (some ⟨g, 0, none⟩) S.vols.length vc, .slice sa S.snaps.length sc] TRS (0, 0)) * old w)) from by ac_rfl)
      obtain ⟨v', w5, hr, hsm5, hs5⟩ := run_append_ownAt (P := Try.prog) 37 37 TVi ti _ Try.underlying37 hti hz0 (by rw [hts]; rfl) (.slice ra k rc) k ((S.vols.take k).flatMap viE) (by rw [hts]; exact hA5) ⟨wr.drew.heap.size, 0, none⟩ 1 1 [.int .i64 p.id, .int .i64 p.tenant, .int .i64 ((items p.m).length : Int)] (by rw [hts]; rfl)
        (by intro j u hu; rw [Addr.add_mid, cells_at hA5.right.block, Nat.zero_add]; simpa using hu) (by simp [Value.oneCell']) (by unfold maxLen; omega) (by rw [hz2]; omega)
      rw [hts] at hs5
      have hb5 := (hsm4.trans hsm5).below_of (hs5.perm (show _ = (ownAt TVi 3 v' (k + 1) ((S.vols.take k).flatMap viE ++ [.int .i64 p.id, .int .i64 p.tenant, .int .i64 ((items p.m).length : Int)]) * (pts wr.drew.heap.size (.cells #[.int .i64 p.id, .int .i64 p.tenant, .int .i64 ((items p.m).length : Int)] TVi (0, 0)) * pts B (.cells #[.slice (some ⟨g, 0, none⟩) S.vols.length vc, .slice sa S.snaps.length sc] TRS (0, 0)))) * old w from by ac_rfl))
      have hS6 : w5.cell? ⟨B, 0, none⟩ = some (.slice (some ⟨g, 0, none⟩) S.vols.length vc) ∧ w5.cell? ⟨g, k * 4, none⟩ = some (.int .i64 p.id) ∧ w5.cell? ⟨g, k * 4 + 1, none⟩ = some (.int .i64 p.tenant) ∧ w5.cell? ⟨g, k * 4 + 3, none⟩ = some (.slice pa (items p.m).length pc) := ⟨cells_at hs5.right.right.block 0, HCL.out _ hb5⟩
      refine reg_run 22 (v') (w5) rfl rfl (by decide +kernel) rfl (exec_app27 rfl rfl rfl hr) (hS6) ?_; simp only [List.setIfInBounds_toArray, List.set_cons_succ, List.set_cons_zero]
      obtain ⟨ao', cp', rfl⟩ := ownAt_slice hs5
      (apply reg_take 23 rfl rfl (by decide +kernel) rfl); (rintro w' ⟨h1, h2, h3, h4⟩; go_simp; rfl); exact hS6; simp only [List.setIfInBounds_toArray, List.set_cons_succ, List.set_cons_zero]
      refine reg_done (by decide +kernel) ?_
      have H6 := Lib.hid (And.intro (hsm4.trans hsm5) hs5)
      clear hS0 hS4 hS6 hA4 hA5 hsm4 hb4 hb5 hsm5 hs5 hr hti hz0 hts hz2 hb0
      go_wp2
      refine ⟨⟨⟨k + 1, by omega, by rw [Int.natCast_add]; rfl, H6.out.1, ?_⟩⟩, by simp only [intOf]; omega⟩
      have htk : S.vols.take (k + 1) = S.vols.take k ++ [p] := by rw [List.take_add_one, HX.out.1]; rfl
      rw [htk, List.flatMap_append]
      have h9 := H6.out.2.perm (show _ = pts wr.drew.heap.size (.cells #[.int .i64 p.id, .int .i64 p.tenant, .int .i64 ((items p.m).length : Int)] TVi (0, 0)) * (ownAt TVi 3 (.slice ao' (k + 1) cp') (k + 1) ((S.vols.take k).flatMap viE ++ [.int .i64 p.id, .int .i64 p.tenant, .int .i64 ((items p.m).length : Int)]) * (pts B (.cells #[.slice (some ⟨g, 0, none⟩) S.vols.length vc, .slice sa S.snaps.length sc] TRS (0, 0)) * old w)) from by ac_rfl)
      have h10 := h9.right
      rw [HIK.out] at h10
      exact h10
    · have hke : k = S.vols.length := by omega
      have hltd : decide ((k : Int) < (S.vols.length : Int)) = false := decide_eq_false (by omega)
      clear hbw
      go_wp2
      go_ret
      subst hke
      rw [List.take_length] at H1
      exact ⟨_, rfl, H1.out.1.below_of (H1.out.2.perm (star_assoc _ _ _).symm), RowsAt.own H1.out.2 (by omega)⟩

set_option maxRecDepth 20000 in
set_option maxHeartbeats 4000000 in
theorem rall_anyO (vv vs : Value) (S : SpaceM) (w : World) (hS : RefAtO w vv vs S) (hl : S.snaps.length ≤ 1000) :
    Calls Try.prog 60 #[.agg #[vv, vs]] w fun e w' => ∃ r, e = .returned r ∧ Hid (Below w.heap.size w w' ∧ RowsAt w' r S.snaps.length (S.snaps.flatMap siE)) := by
  obtain ⟨va, vc, rfl, hvc, hvm⟩ := hS.v.slice
  obtain ⟨sa, sc, rfl, hsc, hsm⟩ := hS.s.slice
  have HS := Lib.hid hS
  have h0 := (Sat.old w).alloc (.cells #[.slice va S.vols.length vc, .slice sa S.snaps.length sc] TRS)
  have hs0 := (Same.refl w).alloc (.cells #[.slice va S.vols.length vc, .slice sa S.snaps.length sc] TRS)
  have H0 := Lib.hid (And.intro hs0 h0)
  obtain ⟨ti, hti, hz0, hts, hz2⟩ := info_parts info_si
  clear hS hvc hvm hsc hsm h0 hs0
  go_enter Try.func60, Try.ntmps60
  go_upto_region 3 with (fail)
  generalize w.alloc (.cells #[.slice va S.vols.length vc, .slice sa S.snaps.length sc] TRS) = W0 at H0 ⊢
  generalize hBB : w.heap.size = B at H0 ⊢
  go_wp2
  go_loopw [3, 4] (fun v i wr => RvSt w TSi 4 siE B (.slice va S.vols.length vc) (.slice sa S.snaps.length sc) S.snaps v i wr) (fun _ i _ => S.snaps.length - (intOf i).toNat)
  case atStart => exact ⟨⟨0, Nat.zero_le _, rfl, H0.out.1, ownAt_nil.2 H0.out.2⟩⟩
  case round =>
    obtain ⟨k, hk, rfl, hsm, hs⟩ := hrel.st
    clear hrel
    obtain ⟨ra, rc, rfl⟩ := ownAt_slice hs
    have hbw := hsm.below_of (hs.perm (star_assoc _ _ _).symm)
    have c0 := cells_at hs.right.block 0; have c1 := cells_at hs.right.block 1
    have H1 := Lib.hid (And.intro hsm hs)
    clear hsm hs
    by_cases hlt : k < S.snaps.length
    · have hltd : decide ((k : Int) < (S.snaps.length : Int)) = true := decide_eq_true (by omega)
      have hki : (k : Int) ≤ 1000 := by omega
      obtain ⟨p, hp⟩ : ∃ p, S.snaps[k]? = some p := ⟨_, List.getElem?_eq_getElem hlt⟩
      obtain ⟨g, pa, pc, rfl, hg, e0, e1, e2, e3, _⟩ := part_atO HS.out.s hp
      have e0 := (hbw.cell (p := ⟨g, k * 4, none⟩) hg).trans e0
      have e1 := (hbw.cell (p := ⟨g, k * 4 + 1, none⟩) hg).trans e1
      have e2 := (hbw.cell (p := ⟨g, k * 4 + 2, none⟩) hg).trans e2
      have e3 := (hbw.cell (p := ⟨g, k * 4 + 3, none⟩) hg).trans e3
      have HX := Lib.hid (And.intro hp (And.intro hg hbw))
      have hik : (items p.m).length = cnt p.m := items_len p.m
      have HIK := Lib.hid hik
      clear hp hik
      go_upto_region 6 with (fail)
      have hA := H1.out.2.allocKeep (.cells #[.int .i64 p.id, .int .i64 p.tenant, .int .i64 p.src, .slice pa (items p.m).length pc] TP)
      have hsA := H1.out.1.alloc (.cells #[.int .i64 p.id, .int .i64 p.tenant, .int .i64 p.src, .slice pa (items p.m).length pc] TP)
      have hPb := heap_alloc_new wr (.cells #[.int .i64 p.id, .int .i64 p.tenant, .int .i64 p.src, .slice pa (items p.m).length pc] TP)
      generalize wr.alloc (.cells #[.int .i64 p.id, .int .i64 p.tenant, .int .i64 p.src, .slice pa (items p.m).length pc] TP) = W2 at hA hsA hPb ⊢
      generalize wr.heap.size = P at hPb ⊢
      have p0 := cells_at hPb 0; have p1 := cells_at hPb 1; have p2 := cells_at hPb 2; have p3 := cells_at hPb 3
      have H2 := Lib.hid (And.intro hsA hA)
      clear c0 c1 e0 e1 e2 e3 H1 hbw hA hsA hPb
      go_wp2_with (at_builtin; refine wpList_append_ownAt rfl _ _ 41 TSi rfl ti _ Try.underlying41 hti hz0 hts hz2 rfl (H2.out.2.allocKeep _) ([.int .i64 p.id, .int .i64 p.src, .int .i64 p.tenant, .int .i64 ((items p.m).length : Int)]) rfl rfl rfl (news4 _ _ _ _ _ _) (by simp [Value.oneCell']) (by unfold maxLen; omega) (by omega) ?_; intro v2 w2 h2; obtain ⟨r2, k2, rfl⟩ := ownAt_slice h2.out.2)
      refine ⟨⟨⟨k + 1, by omega, by rw [Int.natCast_add]; rfl, (H2.out.1.alloc _).trans h2.out.1, ?_⟩⟩, by simp only [intOf]; omega⟩
      have htk : S.snaps.take (k + 1) = S.snaps.take k ++ [p] := by rw [List.take_add_one, HX.out.1]; rfl
      rw [htk, List.flatMap_append]
      have h10 := h2.out.2
      rw [HIK.out] at h10
      exact h10
    · have hke : k = S.snaps.length := by omega
      have hltd : decide ((k : Int) < (S.snaps.length : Int)) = false := decide_eq_false (by omega)
      clear hbw
      go_wp2
      go_ret
      subst hke
      rw [List.take_length] at H1
      exact ⟨_, rfl, H1.out.1.below_of (H1.out.2.perm (star_assoc _ _ _).symm), RowsAt.own H1.out.2 (by omega)⟩
structure SmSt (w : World) (n : Nat) (i : Value) (wr : World) : Prop where
  st : ∃ k : Nat, k ≤ n ∧ i = .int .i64 (k : Int) ∧ Below w.heap.size w wr
/-- All that same has at hand. -/
structure SmFO (w W : World) (p B : Nat) (S : SpaceM) (vv vs v1 v2 s1 s2 : Value) : Prop where
  bl : Below w.heap.size w W
  sp : SpaceAt TNode TSp W p S
  rf : RefAtO W vv vs S
  bx : W.heap[B]? = some (.cells #[vv, vs] TRS (0, 0))
  v1 : RowsAt W v1 S.vols.length (S.vols.flatMap viE)
  v2 : RowsAt W v2 S.vols.length (S.vols.flatMap viE)
  s1 : RowsAt W s1 S.snaps.length (S.snaps.flatMap siE)
  s2 : RowsAt W s2 S.snaps.length (S.snaps.flatMap siE)
theorem SmFO.next {w W W' : World} {p B : Nat} {S : SpaceM} {vv vs v1 v2 s1 s2 : Value} (h : SmFO w W p B S vv vs v1 v2 s1 s2) (hb : Below W.heap.size W W') : SmFO w W' p B S vv vs v1 v2 s1 s2 :=
  ⟨h.bl.trans (hb.mono h.bl.size), h.sp.below hb, h.rf.below hb, (hb.block B (Array.getElem?_eq_some_iff.1 h.bx).1).trans h.bx, h.v1.below hb, h.v2.below hb, h.s1.below hb, h.s2.below hb⟩

set_option maxRecDepth 20000 in
set_option maxHeartbeats 4000000 in
theorem same27_anyO (p : Nat) (S : SpaceM) (vv vs : Value) (w : World) (hS : SpaceAt TNode TSp w p S) (hwf : S.WF) (hR : RefAtO w vv vs S) :
    Calls Try.prog 25 #[.pointer (some ⟨p, 0, none⟩), .agg #[vv, vs]] w fun e w' => e = .returned (.bool true) ∧ Below w.heap.size w w' := by
  obtain ⟨va, vc, rfl, _⟩ := hR.v.slice
  obtain ⟨sa, sc, rfl, _⟩ := hR.s.slice
  have hvl := hwf.vlen
  have hsl := hwf.slen
  have hb0 := (Below.refl w.heap.size w).alloc (Nat.le_refl _) (.cells #[.slice va S.vols.length vc, .slice sa S.snaps.length sc] TRS)
  have hbx := heap_alloc_new w (.cells #[.slice va S.vols.length vc, .slice sa S.snaps.length sc] TRS)
  have HB := Lib.hid (show SmFO w (w.alloc (.cells #[.slice va S.vols.length vc, .slice sa S.snaps.length sc] TRS)) p w.heap.size ⟨[], []⟩ (.slice none 0 0) (.slice none 0 0) (.slice none 0 0) (.slice none 0 0) (.slice none 0 0) (.slice none 0 0) ∨ True from .inr trivial)
  have H0 := Lib.hid (And.intro hb0 (And.intro (hS.below hb0) (And.intro (hR.below hb0) (And.intro hbx hwf))))
  clear hb0 hbx HB hS hR hwf
  go_enter Try.func25, Try.ntmps25
  go_upto_region 1 with (fail)
  generalize w.alloc (.cells #[.slice va S.vols.length vc, .slice sa S.snaps.length sc] TRS) = W0 at H0 ⊢
  generalize hBB : w.heap.size = B at H0 ⊢
  have c0 := cells_at H0.out.2.2.2.1 0; have c1 := cells_at H0.out.2.2.2.1 1
  go_upto_region 5 with (first
    | (go_at_call 15; refine (volsS_any p S _ H0.out.2.1 H0.out.2.2.2.2).mono ?_; rintro e W1 ⟨v1, rfl, h1⟩; clear c0 c1; have H1 := Lib.hid (And.intro h1.out.2 ((h1.out.1.block B (Array.getElem?_eq_some_iff.1 H0.out.2.2.2.1).1).trans H0.out.2.2.2.1)); have c0 := cells_at H1.out.2 0; have c1 := cells_at H1.out.2 1)
    | (go_at_call 59; refine (rvols_anyO _ _ S _ (H0.out.2.2.1.below h1.out.1) (by omega)).mono ?_; rintro e W2 ⟨v2, rfl, h2⟩; clear c0 c1; have H2 := Lib.hid (And.intro h2.out.2 ((h2.out.1.block B (Array.getElem?_eq_some_iff.1 H1.out.2).1).trans H1.out.2)); have c0 := cells_at H2.out.2 0; have c1 := cells_at H2.out.2 1)
    | (go_at_call 16; refine (snapsS_any p S _ ((H0.out.2.1.below h1.out.1).below h2.out.1) H0.out.2.2.2.2).mono ?_; rintro e W3 ⟨s1, rfl, h3⟩; clear c0 c1; have H3 := Lib.hid (And.intro h3.out.2 ((h3.out.1.block B (Array.getElem?_eq_some_iff.1 H2.out.2).1).trans H2.out.2)); have c0 := cells_at H3.out.2 0; have c1 := cells_at H3.out.2 1)
    | (go_at_call 60; refine (rall_anyO _ _ S _ (((H0.out.2.2.1.below h1.out.1).below h2.out.1).below h3.out.1) (by omega)).mono ?_; rintro e W4 ⟨s2, rfl, h4⟩; clear c0 c1))
  have HB := Lib.hid (show SmFO w W4 p B S (.slice va S.vols.length vc) (.slice sa S.snaps.length sc) v1 v2 s1 s2 from
    ⟨by
      have z1 := H0.out.1.trans (h1.out.1.mono (by rw [← hBB]; exact H0.out.1.size))
      have z2 := z1.trans (h2.out.1.mono (by rw [← hBB]; exact z1.size))
      have z3 := z2.trans (h3.out.1.mono (by rw [← hBB]; exact z2.size))
      have z4 := z3.trans (h4.out.1.mono (by rw [← hBB]; exact z3.size))
      rw [hBB]; exact z4,
     (((H0.out.2.1.below h1.out.1).below h2.out.1).below h3.out.1).below h4.out.1, (((H0.out.2.2.1.below h1.out.1).below h2.out.1).below h3.out.1).below h4.out.1,
     (h4.out.1.block B (Array.getElem?_eq_some_iff.1 H3.out.2).1).trans H3.out.2,
     ((h1.out.2.below h2.out.1).below h3.out.1).below h4.out.1, (h2.out.2.below h3.out.1).below h4.out.1, h3.out.2.below h4.out.1, h4.out.2⟩)
  obtain ⟨b1, k1, rfl, _⟩ := id HB.out.v1
  obtain ⟨b2, k2, rfl, _⟩ := id HB.out.v2
  obtain ⟨b3, k3, rfl, _⟩ := id HB.out.s1
  obtain ⟨b4, k4, rfl, _⟩ := id HB.out.s2
  clear h1 h2 h3 h4 H0 H1 H2 H3
  have hq1 : ((S.vols.length : Int) != (S.vols.length : Int)) = false := by simp
  have hq2 : ((S.snaps.length : Int) != (S.snaps.length : Int)) = false := by simp
  go_wp2
  go_loopw [9] (fun i wr => SmSt W4 S.vols.length i wr) (fun i _ => S.vols.length - (intOf i).toNat)
  case atStart => exact ⟨⟨0, Nat.zero_le _, rfl, Below.refl _ _⟩⟩
  case round =>
    obtain ⟨k, hk, rfl, hbw⟩ := hrel.st
    clear hrel
    by_cases hlt : k < S.vols.length
    · have hltd : decide ((k : Int) < (S.vols.length : Int)) = true := decide_eq_true (by omega)
      have hki : (k : Int) ≤ 1000 := by omega
      obtain ⟨x, hx⟩ : ∃ x, S.vols[k]? = some x := ⟨_, List.getElem?_eq_getElem hlt⟩
      have HW := Lib.hid (HB.out.next hbw)
      obtain ⟨g1, rfl, hg1, e0, e1, e2⟩ := vi_cells HW.out.v1 hx
      obtain ⟨g2, rfl, hg2, y0, y1, y2⟩ := vi_cells HW.out.v2 hx
      have HG := Lib.hid (And.intro hg1 (And.intro hg2 (And.intro hx HB.out.bl)))
      have HCELL := Lib.hid (fun (W : World) (hb : Below wr.heap.size wr W) => (show W.cell? ⟨g1, k * 3, none⟩ = some (.int .i64 x.id) ∧ W.cell? ⟨g1, k * 3 + 1, none⟩ = some (.int .i64 x.tenant) ∧ W.cell? ⟨g1, k * 3 + 2, none⟩ = some (.int .i64 (cnt x.m : Int)) ∧ W.cell? ⟨g2, k * 3, none⟩ = some (.int .i64 x.id) ∧ W.cell? ⟨g2, k * 3 + 1, none⟩ = some (.int .i64 x.tenant) ∧ W.cell? ⟨g2, k * 3 + 2, none⟩ = some (.int .i64 (cnt x.m : Int)) from ⟨(hb.cell (p := ⟨g1, k * 3, none⟩) hg1).trans e0, (hb.cell (p := ⟨g1, k * 3 + 1, none⟩) hg1).trans e1, (hb.cell (p := ⟨g1, k * 3 + 2, none⟩) hg1).trans e2, (hb.cell (p := ⟨g2, k * 3, none⟩) hg2).trans y0, (hb.cell (p := ⟨g2, k * 3 + 1, none⟩) hg2).trans y1, (hb.cell (p := ⟨g2, k * 3 + 2, none⟩) hg2).trans y2⟩))
      clear hx e1 e2 y0 y1 y2 hg1 hg2
      go_upto_region 11 with (go_at_call 18; refine (contS_any p S x.id _ HW.out.sp).mono ?_; rintro e W2 ⟨r1, rfl, h2⟩)
      have HW2 := Lib.hid (HW.out.next h2.out.1)
      obtain ⟨a1, c1, rfl, _⟩ := id h2.out.2
      clear e0
      -- the specified one: the region draws its order
      have hS0 : W2.drew.cell? ⟨B, 0, none⟩ = some (.slice va S.vols.length vc) ∧ W2.drew.cell? ⟨B, 1, none⟩ = some (.slice sa S.snaps.length sc) ∧ W2.drew.cell? ⟨g2, k * 3, none⟩ = some (.int .i64 x.id) := ⟨cells_at HW2.out.bx 0, cells_at HW2.out.bx 1, (HCELL.out W2 h2.out.1).2.2.2.1⟩
      refine reg_begin (fun w' => w'.cell? ⟨B, 0, none⟩ = some (.slice va S.vols.length vc) ∧ w'.cell? ⟨B, 1, none⟩ = some (.slice sa S.snaps.length sc) ∧ w'.cell? ⟨g2, k * 3, none⟩ = some (.int .i64 x.id)) (by kernel_rfl) ?_
      (apply reg_take 0 rfl rfl (by decide +kernel) rfl); (rintro w' ⟨h1, h2, h3⟩; go_simp; rfl); exact hS0; simp only [List.setIfInBounds_toArray, List.set_cons_succ, List.set_cons_zero]
      (apply reg_take 1 rfl rfl (by decide +kernel) rfl); (rintro w' ⟨h1, h2, h3⟩; go_simp; rfl); exact hS0; simp only [List.setIfInBounds_toArray, List.set_cons_succ, List.set_cons_zero]
      (apply reg_take 2 rfl rfl (by decide +kernel) rfl); (rintro w' ⟨h1, h2, h3⟩; go_simp; rfl); exact hS0; simp only [List.setIfInBounds_toArray, List.set_cons_succ, List.set_cons_zero]
      (apply reg_take 3 rfl rfl (by decide +kernel) rfl); (rintro w' ⟨h1, h2, h3⟩; go_simp; rfl); exact hS0; simp only [List.setIfInBounds_toArray, List.set_cons_succ, List.set_cons_zero]
      (apply reg_take 4 rfl rfl (by decide +kernel) rfl); (rintro w' ⟨h1, h2, h3⟩; go_simp; rfl); exact hS0; simp only [List.setIfInBounds_toArray, List.set_cons_succ, List.set_cons_zero]
      (apply reg_take 5 rfl rfl (by decide +kernel) rfl); (rintro w' ⟨h1, h2, h3⟩; go_simp; rfl); exact hS0; simp only [List.setIfInBounds_toArray, List.set_cons_succ, List.set_cons_zero]
      have hdr : Below W2.heap.size W2 W2.drew := (Below.refl _ _).drew
      refine reg_call 6 rfl rfl (by decide +kernel) rfl (f := 61) (args := #[.agg #[.slice va S.vols.length vc, .slice sa S.snaps.length sc], .int .i64 x.id]) (R := fun v w' => ∃ r, v = .tuple #[r, .int .i64 (contM S x.id).2] ∧ Hid (Below W2.heap.size W2 w' ∧ RowsO w' r (contM S x.id).1.length ((contM S x.id).1.flatMap refE))) (by kernel_rfl)
        ((rcont_anyO (.slice va S.vols.length vc) (.slice sa S.snaps.length sc) S x.id W2.drew (HW2.out.rf.below hdr) (by omega)).mono fun e w' h => by
          obtain ⟨r, h1, h3⟩ := h
          exact ⟨_, h1, r, rfl, hdr.trans h3.out.1, h3.out.2⟩) ?_
      rintro _ W3 ⟨r2, rfl, h3⟩
      obtain ⟨a2, c2, rfl, _⟩ := id h3.out.2
      have HW3 := Lib.hid (HW2.out.next h3.out.1)
      have hb3 : Below wr.heap.size wr W3 := h2.out.1.trans (h3.out.1.mono h2.out.1.size)
      have hS3 : W3.cell? ⟨B, 0, none⟩ = some (.slice va S.vols.length vc) ∧ W3.cell? ⟨B, 1, none⟩ = some (.slice sa S.snaps.length sc) ∧ W3.cell? ⟨g2, k * 3, none⟩ = some (.int .i64 x.id) := ⟨cells_at HW3.out.bx 0, cells_at HW3.out.bx 1, (HCELL.out W3 hb3).2.2.2.1⟩
      refine ⟨hS3, ?_⟩
      simp only [List.setIfInBounds_toArray, List.set_cons_succ, List.set_cons_zero]
      (apply reg_take 7 rfl rfl (by decide +kernel) rfl); (rintro w' ⟨h1, h2, h3⟩; go_simp; rfl); exact hS3; simp only [List.setIfInBounds_toArray, List.set_cons_succ, List.set_cons_zero]
      (apply reg_take 8 rfl rfl (by decide +kernel) rfl); (rintro w' ⟨h1, h2, h3⟩; go_simp; rfl); exact hS3; simp only [List.setIfInBounds_toArray, List.set_cons_succ, List.set_cons_zero]
      (apply reg_take 9 rfl rfl (by decide +kernel) rfl); (rintro w' ⟨h1, h2, h3⟩; go_simp; rfl); exact hS3; simp only [List.setIfInBounds_toArray, List.set_cons_succ, List.set_cons_zero]
      (apply reg_take 10 rfl rfl (by decide +kernel) rfl); (rintro w' ⟨h1, h2, h3⟩; go_simp; rfl); exact hS3; simp only [List.setIfInBounds_toArray, List.set_cons_succ, List.set_cons_zero]
      (apply reg_take 11 rfl rfl (by decide +kernel) rfl); (rintro w' ⟨h1, h2, h3⟩; go_simp; rfl); exact hS3; simp only [List.setIfInBounds_toArray, List.set_cons_succ, List.set_cons_zero]
      refine reg_done (by decide +kernel) ?_
      have HR := Lib.hid (And.intro (h2.out.2.below h3.out.1) (And.intro h3.out.2 (And.intro hb3 h3.out.1)))
      clear hS0 hS3 h2 h3 hb3 hdr
      go_upto_region 12 with (fail)
      have hS5 : W3.drew.cell? ⟨g1, k * 3, none⟩ = some (.int .i64 x.id) ∧ W3.drew.cell? ⟨g1, k * 3 + 1, none⟩ = some (.int .i64 x.tenant) ∧ W3.drew.cell? ⟨g1, k * 3 + 2, none⟩ = some (.int .i64 (cnt x.m : Int)) ∧ W3.drew.cell? ⟨g2, k * 3, none⟩ = some (.int .i64 x.id) ∧ W3.drew.cell? ⟨g2, k * 3 + 1, none⟩ = some (.int .i64 x.tenant) ∧ W3.drew.cell? ⟨g2, k * 3 + 2, none⟩ = some (.int .i64 (cnt x.m : Int)) := HCELL.out W3 HR.out.2.2.1
      refine reg_begin (fun w' => w'.cell? ⟨g1, k * 3, none⟩ = some (.int .i64 x.id) ∧ w'.cell? ⟨g1, k * 3 + 1, none⟩ = some (.int .i64 x.tenant) ∧ w'.cell? ⟨g1, k * 3 + 2, none⟩ = some (.int .i64 (cnt x.m : Int)) ∧ w'.cell? ⟨g2, k * 3, none⟩ = some (.int .i64 x.id) ∧ w'.cell? ⟨g2, k * 3 + 1, none⟩ = some (.int .i64 x.tenant) ∧ w'.cell? ⟨g2, k * 3 + 2, none⟩ = some (.int .i64 (cnt x.m : Int))) (by kernel_rfl) ?_
      (apply reg_take 0 rfl rfl (by decide +kernel) rfl); (rintro w' ⟨h1, h2, h3, h4, h5, h6⟩; go_simp; rfl); exact hS5; simp only [List.setIfInBounds_toArray, List.set_cons_succ, List.set_cons_zero]
      (apply reg_take 1 rfl rfl (by decide +kernel) rfl); (rintro w' ⟨h1, h2, h3, h4, h5, h6⟩; go_simp; rfl); exact hS5; simp only [List.setIfInBounds_toArray, List.set_cons_succ, List.set_cons_zero]
      (apply reg_take 2 rfl rfl (by decide +kernel) rfl); (rintro w' ⟨h1, h2, h3, h4, h5, h6⟩; go_simp; rfl); exact hS5; simp only [List.setIfInBounds_toArray, List.set_cons_succ, List.set_cons_zero]
      (apply reg_take 3 rfl rfl (by decide +kernel) rfl); (rintro w' ⟨h1, h2, h3, h4, h5, h6⟩; go_simp; rfl); exact hS5; simp only [List.setIfInBounds_toArray, List.set_cons_succ, List.set_cons_zero]
      (apply reg_take 4 rfl rfl (by decide +kernel) rfl); (rintro w' ⟨h1, h2, h3, h4, h5, h6⟩; go_simp; rfl); exact hS5; simp only [List.setIfInBounds_toArray, List.set_cons_succ, List.set_cons_zero]
      (apply reg_take 5 rfl rfl (by decide +kernel) rfl); (rintro w' ⟨h1, h2, h3, h4, h5, h6⟩; go_simp; rfl); exact hS5; simp only [List.setIfInBounds_toArray, List.set_cons_succ, List.set_cons_zero]
      (apply reg_take 6 rfl rfl (by decide +kernel) rfl); (rintro w' ⟨h1, h2, h3, h4, h5, h6⟩; go_simp; rfl); exact hS5; simp only [List.setIfInBounds_toArray, List.set_cons_succ, List.set_cons_zero]
      (apply reg_take 7 rfl rfl (by decide +kernel) rfl); (rintro w' ⟨h1, h2, h3, h4, h5, h6⟩; go_simp; rfl); exact hS5; simp only [List.setIfInBounds_toArray, List.set_cons_succ, List.set_cons_zero]
      (apply reg_take 8 rfl rfl (by decide +kernel) rfl); (rintro w' ⟨h1, h2, h3, h4, h5, h6⟩; go_simp; rfl); exact hS5; simp only [List.setIfInBounds_toArray, List.set_cons_succ, List.set_cons_zero]
      (apply reg_take 9 rfl rfl (by decide +kernel) rfl); (rintro w' ⟨h1, h2, h3, h4, h5, h6⟩; go_simp; rfl); exact hS5; simp only [List.setIfInBounds_toArray, List.set_cons_succ, List.set_cons_zero]
      (apply reg_take 10 rfl rfl (by decide +kernel) rfl); (rintro w' ⟨h1, h2, h3, h4, h5, h6⟩; go_simp; rfl); exact hS5; simp only [List.setIfInBounds_toArray, List.set_cons_succ, List.set_cons_zero]
      (apply reg_take 11 rfl rfl (by decide +kernel) rfl); (rintro w' ⟨h1, h2, h3, h4, h5, h6⟩; go_simp; rfl); exact hS5; simp only [List.setIfInBounds_toArray, List.set_cons_succ, List.set_cons_zero]
      (apply reg_take 12 rfl rfl (by decide +kernel) rfl); (rintro w' ⟨h1, h2, h3, h4, h5, h6⟩; go_simp; rfl); exact hS5; simp only [List.setIfInBounds_toArray, List.set_cons_succ, List.set_cons_zero]
      (apply reg_take 13 rfl rfl (by decide +kernel) rfl); (rintro w' ⟨h1, h2, h3, h4, h5, h6⟩; go_simp; rfl); exact hS5; simp only [List.setIfInBounds_toArray, List.set_cons_succ, List.set_cons_zero]
      (apply reg_take 14 rfl rfl (by decide +kernel) rfl); (rintro w' ⟨h1, h2, h3, h4, h5, h6⟩; go_simp; rfl); exact hS5; simp only [List.setIfInBounds_toArray, List.set_cons_succ, List.set_cons_zero]
      (apply reg_take 15 rfl rfl (by decide +kernel) rfl); (rintro w' ⟨h1, h2, h3, h4, h5, h6⟩; go_simp; rfl); exact hS5; simp only [List.setIfInBounds_toArray, List.set_cons_succ, List.set_cons_zero]
      (apply reg_take 16 rfl rfl (by decide +kernel) rfl); (rintro w' ⟨h1, h2, h3, h4, h5, h6⟩; go_simp; rfl); exact hS5; simp only [List.setIfInBounds_toArray, List.set_cons_succ, List.set_cons_zero]
      have hdr : Below W3.heap.size W3 W3.drew := (Below.refl _ _).drew
      refine reg_call 17 rfl rfl (by decide +kernel) rfl (f := 20) (args := #[.slice a1 (contM S x.id).1.length c1, .slice a2 (contM S x.id).1.length c2]) (R := fun v w' => v = .bool true ∧ Hid (Below W3.heap.size W3 w')) (by kernel_rfl)
        ((maps_anyO (.slice a1 (contM S x.id).1.length c1) (.slice a2 (contM S x.id).1.length c2) (contM S x.id).1 (contM S x.id).1 W3.drew (HR.out.1.below hdr) (HR.out.2.1.below hdr)).mono fun e w' h => ⟨_, h.1, by rw [decide_eq_true rfl], hdr.trans h.2⟩) ?_
      rintro _ W4 ⟨rfl, h4⟩
      have hS6 : W4.cell? ⟨g1, k * 3, none⟩ = some (.int .i64 x.id) ∧ W4.cell? ⟨g1, k * 3 + 1, none⟩ = some (.int .i64 x.tenant) ∧ W4.cell? ⟨g1, k * 3 + 2, none⟩ = some (.int .i64 (cnt x.m : Int)) ∧ W4.cell? ⟨g2, k * 3, none⟩ = some (.int .i64 x.id) ∧ W4.cell? ⟨g2, k * 3 + 1, none⟩ = some (.int .i64 x.tenant) ∧ W4.cell? ⟨g2, k * 3 + 2, none⟩ = some (.int .i64 (cnt x.m : Int)) := HCELL.out W4 (HR.out.2.2.1.trans (h4.out.mono HR.out.2.2.1.size))
      refine ⟨hS6, ?_⟩
      simp only [List.setIfInBounds_toArray, List.set_cons_succ, List.set_cons_zero]
      (apply reg_take 18 rfl rfl (by decide +kernel) rfl); (rintro w' ⟨h1, h2, h3, h4, h5, h6⟩; go_simp; rfl); exact hS6; simp only [List.setIfInBounds_toArray, List.set_cons_succ, List.set_cons_zero]
      (apply reg_take 19 rfl rfl (by decide +kernel) rfl); (rintro w' ⟨h1, h2, h3, h4, h5, h6⟩; go_simp; rfl); exact hS6; simp only [List.setIfInBounds_toArray, List.set_cons_succ, List.set_cons_zero]
      refine reg_done (by decide +kernel) ?_
      have HZ := Lib.hid ((hbw.trans (HR.out.2.2.1.mono hbw.size)).trans (h4.out.mono (hbw.trans (HR.out.2.2.1.mono hbw.size)).size))
      clear hS5 hS6 h4 hbw hdr
      go_wp2
      refine ⟨⟨⟨k + 1, by omega, by rw [Int.natCast_add]; rfl, HZ.out⟩⟩, by simp only [intOf]; omega⟩
    · have hke : k = S.vols.length := by omega
      have hltd : decide ((k : Int) < (S.vols.length : Int)) = false := decide_eq_false (by omega)
    
      have HB2 := Lib.hid (HB.out.next hbw)
      clear HB hbw
      go_wp2
      clear hke hltd hlt hk
      go_loopw [14] (fun i wr' => SmSt wr S.snaps.length i wr') (fun i _ => S.snaps.length - (intOf i).toNat)
      case atStart => exact ⟨⟨0, Nat.zero_le _, rfl, Below.refl _ _⟩⟩
      case round =>
        obtain ⟨k, hk, rfl, hbw⟩ := hrel.st
        clear hrel
        by_cases hlt : k < S.snaps.length
        · have hltd : decide ((k : Int) < (S.snaps.length : Int)) = true := decide_eq_true (by omega)
          have hki : (k : Int) ≤ 1000 := by omega
          obtain ⟨x, hx⟩ : ∃ x, S.snaps[k]? = some x := ⟨_, List.getElem?_eq_getElem hlt⟩
          have HW := Lib.hid (HB2.out.next hbw)
          obtain ⟨g1, rfl, hg1, e0, e1, e2, e3⟩ := si_cells HW.out.s1 hx
          obtain ⟨g2, rfl, hg2, y0, y1, y2, y3⟩ := si_cells HW.out.s2 hx
          have HG := Lib.hid (And.intro hg1 (And.intro hg2 (And.intro hx HB2.out.bl)))
          have HCELL := Lib.hid (fun (W : World) (hb : Below wr.heap.size wr W) => (show W.cell? ⟨g1, k * 4, none⟩ = some (.int .i64 x.id) ∧ W.cell? ⟨g1, k * 4 + 1, none⟩ = some (.int .i64 x.src) ∧ W.cell? ⟨g1, k * 4 + 2, none⟩ = some (.int .i64 x.tenant) ∧ W.cell? ⟨g1, k * 4 + 3, none⟩ = some (.int .i64 (cnt x.m : Int)) ∧ W.cell? ⟨g2, k * 4, none⟩ = some (.int .i64 x.id) ∧ W.cell? ⟨g2, k * 4 + 1, none⟩ = some (.int .i64 x.src) ∧ W.cell? ⟨g2, k * 4 + 2, none⟩ = some (.int .i64 x.tenant) ∧ W.cell? ⟨g2, k * 4 + 3, none⟩ = some (.int .i64 (cnt x.m : Int)) from ⟨(hb.cell (p := ⟨g1, k * 4, none⟩) hg1).trans e0, (hb.cell (p := ⟨g1, k * 4 + 1, none⟩) hg1).trans e1, (hb.cell (p := ⟨g1, k * 4 + 2, none⟩) hg1).trans e2, (hb.cell (p := ⟨g1, k * 4 + 3, none⟩) hg1).trans e3, (hb.cell (p := ⟨g2, k * 4, none⟩) hg2).trans y0, (hb.cell (p := ⟨g2, k * 4 + 1, none⟩) hg2).trans y1, (hb.cell (p := ⟨g2, k * 4 + 2, none⟩) hg2).trans y2, (hb.cell (p := ⟨g2, k * 4 + 3, none⟩) hg2).trans y3⟩))
          clear hx e1 e2 e3 y0 y1 y2 y3 hg1 hg2
          go_upto_region 18 with (go_at_call 19; refine (imgS_any p S x.id _ HW.out.sp).mono ?_; rintro e W2 ⟨r1, rfl, h2⟩)
          have HW2 := Lib.hid (HW.out.next h2.out.1)
          obtain ⟨a1, c1, rfl, _⟩ := id h2.out.2
          clear e0
          -- the specified one: the region draws its order
          have hS0 : W2.drew.cell? ⟨B, 0, none⟩ = some (.slice va S.vols.length vc) ∧ W2.drew.cell? ⟨B, 1, none⟩ = some (.slice sa S.snaps.length sc) ∧ W2.drew.cell? ⟨g2, k * 4, none⟩ = some (.int .i64 x.id) := ⟨cells_at HW2.out.bx 0, cells_at HW2.out.bx 1, (HCELL.out W2 h2.out.1).2.2.2.2.1⟩
          refine reg_begin (fun w' => w'.cell? ⟨B, 0, none⟩ = some (.slice va S.vols.length vc) ∧ w'.cell? ⟨B, 1, none⟩ = some (.slice sa S.snaps.length sc) ∧ w'.cell? ⟨g2, k * 4, none⟩ = some (.int .i64 x.id)) (by kernel_rfl) ?_
          (apply reg_take 0 rfl rfl (by decide +kernel) rfl); (rintro w' ⟨h1, h2, h3⟩; go_simp; rfl); exact hS0; simp only [List.setIfInBounds_toArray, List.set_cons_succ, List.set_cons_zero]
          (apply reg_take 1 rfl rfl (by decide +kernel) rfl); (rintro w' ⟨h1, h2, h3⟩; go_simp; rfl); exact hS0; simp only [List.setIfInBounds_toArray, List.set_cons_succ, List.set_cons_zero]
          (apply reg_take 2 rfl rfl (by decide +kernel) rfl); (rintro w' ⟨h1, h2, h3⟩; go_simp; rfl); exact hS0; simp only [List.setIfInBounds_toArray, List.set_cons_succ, List.set_cons_zero]
          (apply reg_take 3 rfl rfl (by decide +kernel) rfl); (rintro w' ⟨h1, h2, h3⟩; go_simp; rfl); exact hS0; simp only [List.setIfInBounds_toArray, List.set_cons_succ, List.set_cons_zero]
          (apply reg_take 4 rfl rfl (by decide +kernel) rfl); (rintro w' ⟨h1, h2, h3⟩; go_simp; rfl); exact hS0; simp only [List.setIfInBounds_toArray, List.set_cons_succ, List.set_cons_zero]
          (apply reg_take 5 rfl rfl (by decide +kernel) rfl); (rintro w' ⟨h1, h2, h3⟩; go_simp; rfl); exact hS0; simp only [List.setIfInBounds_toArray, List.set_cons_succ, List.set_cons_zero]
          have hdr : Below W2.heap.size W2 W2.drew := (Below.refl _ _).drew
          refine reg_call 6 rfl rfl (by decide +kernel) rfl (f := 62) (args := #[.agg #[.slice va S.vols.length vc, .slice sa S.snaps.length sc], .int .i64 x.id]) (R := fun v w' => ∃ r, v = .tuple #[r, .int .i64 (imageM S x.id).2] ∧ Hid (Below W2.heap.size W2 w' ∧ RowsO w' r (imageM S x.id).1.length ((imageM S x.id).1.flatMap refE))) (by kernel_rfl)
            ((rimg_anyO (.slice va S.vols.length vc) (.slice sa S.snaps.length sc) S x.id W2.drew (HW2.out.rf.below hdr) (by omega)).mono fun e w' h => by
              obtain ⟨r, h1, h3⟩ := h
              exact ⟨_, h1, r, rfl, hdr.trans h3.out.1, h3.out.2⟩) ?_
          rintro _ W3 ⟨r2, rfl, h3⟩
          obtain ⟨a2, c2, rfl, _⟩ := id h3.out.2
          have HW3 := Lib.hid (HW2.out.next h3.out.1)
          have hb3 : Below wr.heap.size wr W3 := h2.out.1.trans (h3.out.1.mono h2.out.1.size)
          have hS3 : W3.cell? ⟨B, 0, none⟩ = some (.slice va S.vols.length vc) ∧ W3.cell? ⟨B, 1, none⟩ = some (.slice sa S.snaps.length sc) ∧ W3.cell? ⟨g2, k * 4, none⟩ = some (.int .i64 x.id) := ⟨cells_at HW3.out.bx 0, cells_at HW3.out.bx 1, (HCELL.out W3 hb3).2.2.2.2.1⟩
          refine ⟨hS3, ?_⟩
          simp only [List.setIfInBounds_toArray, List.set_cons_succ, List.set_cons_zero]
          (apply reg_take 7 rfl rfl (by decide +kernel) rfl); (rintro w' ⟨h1, h2, h3⟩; go_simp; rfl); exact hS3; simp only [List.setIfInBounds_toArray, List.set_cons_succ, List.set_cons_zero]
          (apply reg_take 8 rfl rfl (by decide +kernel) rfl); (rintro w' ⟨h1, h2, h3⟩; go_simp; rfl); exact hS3; simp only [List.setIfInBounds_toArray, List.set_cons_succ, List.set_cons_zero]
          (apply reg_take 9 rfl rfl (by decide +kernel) rfl); (rintro w' ⟨h1, h2, h3⟩; go_simp; rfl); exact hS3; simp only [List.setIfInBounds_toArray, List.set_cons_succ, List.set_cons_zero]
          (apply reg_take 10 rfl rfl (by decide +kernel) rfl); (rintro w' ⟨h1, h2, h3⟩; go_simp; rfl); exact hS3; simp only [List.setIfInBounds_toArray, List.set_cons_succ, List.set_cons_zero]
          (apply reg_take 11 rfl rfl (by decide +kernel) rfl); (rintro w' ⟨h1, h2, h3⟩; go_simp; rfl); exact hS3; simp only [List.setIfInBounds_toArray, List.set_cons_succ, List.set_cons_zero]
          refine reg_done (by decide +kernel) ?_
          have HR := Lib.hid (And.intro (h2.out.2.below h3.out.1) (And.intro h3.out.2 (And.intro hb3 h3.out.1)))
          clear hS0 hS3 h2 h3 hb3 hdr
          go_upto_region 19 with (fail)
          have hS5 : W3.drew.cell? ⟨g1, k * 4, none⟩ = some (.int .i64 x.id) ∧ W3.drew.cell? ⟨g1, k * 4 + 1, none⟩ = some (.int .i64 x.src) ∧ W3.drew.cell? ⟨g1, k * 4 + 2, none⟩ = some (.int .i64 x.tenant) ∧ W3.drew.cell? ⟨g1, k * 4 + 3, none⟩ = some (.int .i64 (cnt x.m : Int)) ∧ W3.drew.cell? ⟨g2, k * 4, none⟩ = some (.int .i64 x.id) ∧ W3.drew.cell? ⟨g2, k * 4 + 1, none⟩ = some (.int .i64 x.src) ∧ W3.drew.cell? ⟨g2, k * 4 + 2, none⟩ = some (.int .i64 x.tenant) ∧ W3.drew.cell? ⟨g2, k * 4 + 3, none⟩ = some (.int .i64 (cnt x.m : Int)) := HCELL.out W3 HR.out.2.2.1
          refine reg_begin (fun w' => w'.cell? ⟨g1, k * 4, none⟩ = some (.int .i64 x.id) ∧ w'.cell? ⟨g1, k * 4 + 1, none⟩ = some (.int .i64 x.src) ∧ w'.cell? ⟨g1, k * 4 + 2, none⟩ = some (.int .i64 x.tenant) ∧ w'.cell? ⟨g1, k * 4 + 3, none⟩ = some (.int .i64 (cnt x.m : Int)) ∧ w'.cell? ⟨g2, k * 4, none⟩ = some (.int .i64 x.id) ∧ w'.cell? ⟨g2, k * 4 + 1, none⟩ = some (.int .i64 x.src) ∧ w'.cell? ⟨g2, k * 4 + 2, none⟩ = some (.int .i64 x.tenant) ∧ w'.cell? ⟨g2, k * 4 + 3, none⟩ = some (.int .i64 (cnt x.m : Int))) (by kernel_rfl) ?_
          (apply reg_take 0 rfl rfl (by decide +kernel) rfl); (rintro w' ⟨h1, h2, h3, h4, h5, h6, h7, h8⟩; go_simp; rfl); exact hS5; simp only [List.setIfInBounds_toArray, List.set_cons_succ, List.set_cons_zero]
          (apply reg_take 1 rfl rfl (by decide +kernel) rfl); (rintro w' ⟨h1, h2, h3, h4, h5, h6, h7, h8⟩; go_simp; rfl); exact hS5; simp only [List.setIfInBounds_toArray, List.set_cons_succ, List.set_cons_zero]
          (apply reg_take 2 rfl rfl (by decide +kernel) rfl); (rintro w' ⟨h1, h2, h3, h4, h5, h6, h7, h8⟩; go_simp; rfl); exact hS5; simp only [List.setIfInBounds_toArray, List.set_cons_succ, List.set_cons_zero]
          (apply reg_take 3 rfl rfl (by decide +kernel) rfl); (rintro w' ⟨h1, h2, h3, h4, h5, h6, h7, h8⟩; go_simp; rfl); exact hS5; simp only [List.setIfInBounds_toArray, List.set_cons_succ, List.set_cons_zero]
          (apply reg_take 4 rfl rfl (by decide +kernel) rfl); (rintro w' ⟨h1, h2, h3, h4, h5, h6, h7, h8⟩; go_simp; rfl); exact hS5; simp only [List.setIfInBounds_toArray, List.set_cons_succ, List.set_cons_zero]
          (apply reg_take 5 rfl rfl (by decide +kernel) rfl); (rintro w' ⟨h1, h2, h3, h4, h5, h6, h7, h8⟩; go_simp; rfl); exact hS5; simp only [List.setIfInBounds_toArray, List.set_cons_succ, List.set_cons_zero]
          (apply reg_take 6 rfl rfl (by decide +kernel) rfl); (rintro w' ⟨h1, h2, h3, h4, h5, h6, h7, h8⟩; go_simp; rfl); exact hS5; simp only [List.setIfInBounds_toArray, List.set_cons_succ, List.set_cons_zero]
          (apply reg_take 7 rfl rfl (by decide +kernel) rfl); (rintro w' ⟨h1, h2, h3, h4, h5, h6, h7, h8⟩; go_simp; rfl); exact hS5; simp only [List.setIfInBounds_toArray, List.set_cons_succ, List.set_cons_zero]
          (apply reg_take 8 rfl rfl (by decide +kernel) rfl); (rintro w' ⟨h1, h2, h3, h4, h5, h6, h7, h8⟩; go_simp; rfl); exact hS5; simp only [List.setIfInBounds_toArray, List.set_cons_succ, List.set_cons_zero]
          (apply reg_take 9 rfl rfl (by decide +kernel) rfl); (rintro w' ⟨h1, h2, h3, h4, h5, h6, h7, h8⟩; go_simp; rfl); exact hS5; simp only [List.setIfInBounds_toArray, List.set_cons_succ, List.set_cons_zero]
          (apply reg_take 10 rfl rfl (by decide +kernel) rfl); (rintro w' ⟨h1, h2, h3, h4, h5, h6, h7, h8⟩; go_simp; rfl); exact hS5; simp only [List.setIfInBounds_toArray, List.set_cons_succ, List.set_cons_zero]
          (apply reg_take 11 rfl rfl (by decide +kernel) rfl); (rintro w' ⟨h1, h2, h3, h4, h5, h6, h7, h8⟩; go_simp; rfl); exact hS5; simp only [List.setIfInBounds_toArray, List.set_cons_succ, List.set_cons_zero]
          (apply reg_take 12 rfl rfl (by decide +kernel) rfl); (rintro w' ⟨h1, h2, h3, h4, h5, h6, h7, h8⟩; go_simp; rfl); exact hS5; simp only [List.setIfInBounds_toArray, List.set_cons_succ, List.set_cons_zero]
          (apply reg_take 13 rfl rfl (by decide +kernel) rfl); (rintro w' ⟨h1, h2, h3, h4, h5, h6, h7, h8⟩; go_simp; rfl); exact hS5; simp only [List.setIfInBounds_toArray, List.set_cons_succ, List.set_cons_zero]
          (apply reg_take 14 rfl rfl (by decide +kernel) rfl); (rintro w' ⟨h1, h2, h3, h4, h5, h6, h7, h8⟩; go_simp; rfl); exact hS5; simp only [List.setIfInBounds_toArray, List.set_cons_succ, List.set_cons_zero]
          (apply reg_take 15 rfl rfl (by decide +kernel) rfl); (rintro w' ⟨h1, h2, h3, h4, h5, h6, h7, h8⟩; go_simp; rfl); exact hS5; simp only [List.setIfInBounds_toArray, List.set_cons_succ, List.set_cons_zero]
          (apply reg_take 16 rfl rfl (by decide +kernel) rfl); (rintro w' ⟨h1, h2, h3, h4, h5, h6, h7, h8⟩; go_simp; rfl); exact hS5; simp only [List.setIfInBounds_toArray, List.set_cons_succ, List.set_cons_zero]
          have hdr : Below W3.heap.size W3 W3.drew := (Below.refl _ _).drew
          refine reg_call 17 rfl rfl (by decide +kernel) rfl (f := 20) (args := #[.slice a1 (imageM S x.id).1.length c1, .slice a2 (imageM S x.id).1.length c2]) (R := fun v w' => v = .bool true ∧ Hid (Below W3.heap.size W3 w')) (by kernel_rfl)
            ((maps_anyO (.slice a1 (imageM S x.id).1.length c1) (.slice a2 (imageM S x.id).1.length c2) (imageM S x.id).1 (imageM S x.id).1 W3.drew (HR.out.1.below hdr) (HR.out.2.1.below hdr)).mono fun e w' h => ⟨_, h.1, by rw [decide_eq_true rfl], hdr.trans h.2⟩) ?_
          rintro _ W4 ⟨rfl, h4⟩
          have hS6 : W4.cell? ⟨g1, k * 4, none⟩ = some (.int .i64 x.id) ∧ W4.cell? ⟨g1, k * 4 + 1, none⟩ = some (.int .i64 x.src) ∧ W4.cell? ⟨g1, k * 4 + 2, none⟩ = some (.int .i64 x.tenant) ∧ W4.cell? ⟨g1, k * 4 + 3, none⟩ = some (.int .i64 (cnt x.m : Int)) ∧ W4.cell? ⟨g2, k * 4, none⟩ = some (.int .i64 x.id) ∧ W4.cell? ⟨g2, k * 4 + 1, none⟩ = some (.int .i64 x.src) ∧ W4.cell? ⟨g2, k * 4 + 2, none⟩ = some (.int .i64 x.tenant) ∧ W4.cell? ⟨g2, k * 4 + 3, none⟩ = some (.int .i64 (cnt x.m : Int)) := HCELL.out W4 (HR.out.2.2.1.trans (h4.out.mono HR.out.2.2.1.size))
          refine ⟨hS6, ?_⟩
          simp only [List.setIfInBounds_toArray, List.set_cons_succ, List.set_cons_zero]
          (apply reg_take 18 rfl rfl (by decide +kernel) rfl); (rintro w' ⟨h1, h2, h3, h4, h5, h6, h7, h8⟩; go_simp; rfl); exact hS6; simp only [List.setIfInBounds_toArray, List.set_cons_succ, List.set_cons_zero]
          (apply reg_take 19 rfl rfl (by decide +kernel) rfl); (rintro w' ⟨h1, h2, h3, h4, h5, h6, h7, h8⟩; go_simp; rfl); exact hS6; simp only [List.setIfInBounds_toArray, List.set_cons_succ, List.set_cons_zero]
          refine reg_done (by decide +kernel) ?_
          have HZ := Lib.hid ((hbw.trans (HR.out.2.2.1.mono hbw.size)).trans (h4.out.mono (hbw.trans (HR.out.2.2.1.mono hbw.size)).size))
          clear hS5 hS6 h4 hbw hdr
          go_wp2
          refine ⟨⟨⟨k + 1, by omega, by rw [Int.natCast_add]; rfl, HZ.out⟩⟩, by simp only [intOf]; omega⟩
        · have hke : k = S.snaps.length := by omega
          have hltd : decide ((k : Int) < (S.snaps.length : Int)) = false := decide_eq_false (by omega)
        
          have HB3 := Lib.hid (HB2.out.next hbw).bl
          clear hbw
          go_wp2
          go_ret
          exact ⟨rfl, HB3.out⟩
end Go.Proofs.Ytednjhlkhecihaa
