import Derived.Test.YteikbikopgabjaaGreatDoorH22
import Derived.Test.YteikbikopgabjaaGreatDoorH23
import Derived.Test.YteikbikopgabjaaGreatDoorH27
import Derived.Test.YteikbikopgabjaaGreatDoorH08
import Derived.Test.YteikbikopgabjaaGreatDoorH35
/- Part 36 of a proof; the last part says what is proved. -/
section
namespace Go.GF
open Go Go.RowKit
def boolsV (h : List Bool) : List Value := h.map fun b => .bool b
theorem boolsV_len (h : List Bool) : (boolsV h).length = h.length := List.length_map _
theorem boolsV_at {h : List Bool} {j : Nat} {x : Bool} (hx : h[j]? = some x) : (boolsV h)[j]? = some (.bool x) := by unfold boolsV; rw [List.getElem?_map, hx]; rfl
def unitsK (h : List Bool) (k : Nat) : List Nat := (List.range k).filter fun u => (h[u]?).getD false
theorem unitsK_all (h : List Bool) : unitsK h h.length = units h := rfl
theorem unitsK_succ (h : List Bool) (k : Nat) {x : Bool} (hx : h[k]? = some x) : unitsK h (k + 1) = if x = true then unitsK h k ++ [k] else unitsK h k := by
 unfold unitsK
 rw [List.range_succ, List.filter_append]
 cases x <;> simp [hx]
theorem unitsK_len (h : List Bool) (k : Nat) : (unitsK h k).length ≤ k := by
 unfold unitsK
 have := List.length_filter_le (fun u => (h[u]?).getD false) (List.range k)
 simpa using this
end Go.GF
namespace Go.Proofs.YteikbikopgabjaaGreatDoor
open Go.RowKit Go.GF Go.Sl
end Go.Proofs.YteikbikopgabjaaGreatDoor
namespace Go.GF
open Go Go.RowKit
def basU (c : CodeM) (us : List Nat) : List Nat := (basisL c us).map fun p => (us[p]?).getD 0
theorem basU_len (c : CodeM) (us : List Nat) : (basU c us).length = (basisL c us).length := List.length_map _
theorem basisL_nil (c : CodeM) : basisL c [] = [] := rfl
theorem basisL_lt {c : CodeM} (h : c.Ok) {us : List Nat} {p : Nat} (hp : p ∈ basisL c us) : p < us.length := (redM_pair (opsC h.fld) (matT_bnd h us)).2.1 p hp
theorem basisL_le {c : CodeM} (h : c.Ok) (us : List Nat) : (basisL c us).length ≤ us.length := (redM_pair (opsC h.fld) (matT_bnd h us)).2.2.2
theorem natsI_at {l : List Nat} {i u : Nat} (h : l[i]? = some u) : (intsV (natsI l))[i]? = some (.int .i64 (u : Int)) := intsV_at (by unfold natsI; rw [List.getElem?_map, h]; rfl)
end Go.GF
namespace Go.Proofs.YteikbikopgabjaaGreatDoor
open Go.RowKit Go.GF Go.Sl
theorem units_lt {h : List Bool} {u : Nat} (hu : u ∈ units h) : u < h.length := by
 have := mem_units.1 hu
 exact (List.getElem?_eq_some_iff.1 this).1
theorem units_len (h : List Bool) : (units h).length ≤ h.length := by rw [← unitsK_all]; exact unitsK_len h _
structure BsF (w0 : World) (c : CodeM) (gM g cp base : Nat) (v : Value) (L : List Int) (wr : World) : Prop where
 bM : MatB wr g c.n c.k c.gen
 bG : Box wr gM (matV c.m c.n c.k g cp)
 own : OwnI base wr v L
 bl : Below w0.heap.size w0 wr
 ne : gM < base ∧ g < base ∧ w0.heap.size ≤ base ∧ base ≤ wr.heap.size
theorem BsF.app {w0 wr w9 : World} {c : CodeM} {gM g cp base : Nat} {v v' : Value} {L L' : List Int} {o : Obj} (h : BsF w0 c gM g cp base v L wr) (h9 : OwnI base w9 v' L') (h10 : Below base (wr.alloc o) w9) : BsF w0 c gM g cp base v' L' w9 := by
 obtain ⟨n1, n2, n3, n4⟩ := h.ne
 have h1 := al_below wr o
 have hz := h1.size
 have hk : ∀ k, k < base → w9.heap[k]? = wr.heap[k]? := fun k hk => (h10.block k hk).trans (h1.block k (by omega))
 have hz2 := h10.size
 exact ⟨h.bM.keep (hk g n2), h.bG.keep (hk gM n1), h9, h.bl.trans ((h1.mono h.bl.size).trans (h10.mono n3)), n1, n2, n3, by omega⟩
theorem bs_start (w w1 : World) (c : CodeM) (g cp : Nat) (t t' : TypeId) (o : Array Value) (h4 : MatB w1 g c.n c.k c.gen) (h5 : Below (w.alloc (.cells o t')).heap.size (w.alloc (.cells o t')) w1) :
  BsF w c w1.heap.size g cp (w1.heap.size + 1) (.slice none 0 0) (natsI (unitsK [] 0)) (w1.alloc (.cells (matV c.m c.n c.k g cp) t)) := by
 have h6 := al_below w1 (.cells (matV c.m c.n c.k g cp) t)
 have hb : Below w.heap.size w w1 := (al_below w _).trans (h5.mono (al_below w _).size)
 have hg := h4.lt
 have := hb.size
 exact ⟨h4.below h6, ⟨t, World.alloc_heap_new w1 _⟩, OwnI.nil _ _, hb.trans (h6.mono hb.size), by omega, by omega, by omega, by simp⟩
structure BsSt (w0 : World) (c : CodeM) (gM g cp base : Nat) (h : List Bool) (v k : Value) (wr : World) : Prop where
 st : ∃ n : Nat, n ≤ h.length ∧ k = .int .i64 (n : Int) ∧ BsF w0 c gM g cp base v (natsI (unitsK h n)) wr
structure BtSt (w3 : World) (us ps : List Nat) (v k : Value) (wr : World) : Prop where
 st : ∃ n : Nat, n ≤ ps.length ∧ k = .int .i64 (n : Int) ∧ OwnI w3.heap.size wr v (natsI ((ps.take n).map fun p => (us[p]?).getD 0)) ∧ Below w3.heap.size w3 wr
set_option maxRecDepth 20000 in
set_option maxHeartbeats 4000000 in
theorem basis_any (cv : Array Value) (c : CodeM) (hv : Value) (h : List Bool) (hl : h.length = c.n) (w : World) (hT : TabF w) (hc : CodeAt w cv c) (hr : RowI w hv (boolsV h)) :
  Calls Tryz.prog 118 #[.agg cv, hv] w fun e w' => ∃ v, e = .returned (.tuple #[v, .int .i64 0]) ∧ RowI w' v (intsV (natsI (basU c (units h)))) ∧ Below w.heap.size w w' := by
 have HG := Lib.hid (fun W (hb : Below w.heap.size w W) => gen_any cv c W (hT.below hb) (hc.below hb))
 have HT := Lib.hid hT
 obtain ⟨⟨nm, pv, dom, rfl, hp⟩, hok, h32, hval⟩ := hc
 have hk32 : c.k ≤ 32 := by unfold CodeM.n at h32; omega
 have HP := Lib.hid (fun g cp (h1 : c.n * c.k ≤ cp) (h2 : cp ≤ maxLen) us h32u h0 hur v W hM hv => pick_any c.m hok.fld c.n c.k g cp h32 hk32 hok.pos h1 h2 c.gen (fun _ _ _ _ => gen_lt hok _ _) us h32u h0 hur v W hM hv)
 have HI := Lib.hid (fun (us : List Nat) g cp (h1 : us.length * c.k ≤ cp) (h2 : cp ≤ maxLen) (h32u : us.length ≤ 32) (h0 : 0 < us.length) W (hT : TabF W) (hM : MatB W g us.length c.k (fun i j => c.gen ((us[i]?).getD 0) j)) => independent_any c.m hok.fld us.length c.k g cp h32u hk32 h0 hok.pos h1 h2 _ (fun _ _ _ _ => gen_lt hok _ _) W hT hM)
 have HX := Lib.hid hok
 obtain ⟨ao, co, rfl, -, -, hrow⟩ := hr
 rw [boolsV_len] at *
 have HR := Lib.hid hrow
 have HL := Lib.hid hl
 have hn32 : c.n ≤ 32 := h32
 have hlI : (c.n : Int) ≤ 32 := by omega
 have hlc : h.length ≤ 32 := by omega
 rw [show (h.length : Nat) = c.n from hl]
 clear hrow hp hval h32 hT hok hl
 unfold codeV at *
 go_enter Tryz.func118, Tryz.ntmps118
 go_wp2_with (go_at_call 119; refine (HG.out _ (al_below w _)).mono ?_; rintro e w1 ⟨g, cp, rfl, h1, h2, h3, h4, h5⟩; unfold matV)
 have HF := Lib.hid (bs_start w w1 c g cp TM _ _ h4 h5)
 have HC := Lib.hid (And.intro h1 h2)
 clear h3 h4 h5 h1 h2 HG
 unfold matV at HF
 generalize w1.heap.size = gM at *
 obtain ⟨base, hbase⟩ : ∃ base, gM + 1 = base := ⟨_, rfl⟩
 rw [hbase] at HF
 clear hbase
 go_loopw [8, 32] (fun v k wr => BsSt w c gM g cp base h v k wr) (fun _ k _ => c.n - (intOf k).toNat)
 case atStart => exact ⟨⟨0, Nat.zero_le _, rfl, HF.out⟩⟩
 case round =>
  clear HF
  obtain ⟨k, hk, rfl, hF⟩ := hrel.st
  clear hrel
  have HF := Lib.hid hF
  by_cases hlt : k < c.n
  ·have hltd : decide ((k : Int) < (c.n : Int)) = true := decide_eq_true (by omega)
   have hwk : IntKind.i64.wrap ((k : Int) + 1) = (k : Int) + 1 := IntWalk.i64_in _ (by omega)
   have hkl : k < h.length := by rw [HL.out]; exact hlt
   obtain ⟨x, hx⟩ : ∃ x, h[k]? = some x := ⟨_, List.getElem?_eq_getElem hkl⟩
   obtain ⟨b, off, rfl, hbl, hc⟩ := HR.out (by omega)
   have e0 := (hF.bl.cell (p := ⟨b, off + k, none⟩) hbl).trans (hc k _ (boolsV_at hx))
   have HS := Lib.hid (unitsK_succ h k hx)
   have HLK := Lib.hid (unitsK_len h k)
   have hsz := hF.ne.2.2.2
   have HK := Lib.hid hkl
   clear hF hx hbl hc hk hkl
   cases x with
   | false =>
    go_wp2
    go_roundw
    case rel => exact ⟨⟨k + 1, HK.out, rfl, by rw [HS.out]; exact HF.out⟩⟩
    case measure => simp only [intOf]; omega
   | true =>
    go_wp2_with (at_builtin; refine wpList_apN rfl _ _ rfl rfl rfl HF.out.own (by rw [natsI_len]; have := HLK.out; omega) hsz ?_; intro v' w9 h9 h10)
    go_roundw
    case rel => exact ⟨⟨k + 1, HK.out, rfl, HF.out.app (by rw [HS.out, if_pos rfl, natsI_app]; exact h9) h10⟩⟩
    case measure => simp only [intOf]; omega
  ·have hkc : k = c.n := by rw [← HL.out] at hlt ⊢; omega
   have hltd : decide ((k : Int) < (c.n : Int)) = false := decide_eq_false (by omega)
   have hltp : ¬ (k : Int) < (c.n : Int) := by omega
   have hF2 : BsF w c gM g cp base u8 (natsI (units h)) wr := by
    rw [← unitsK_all, HL.out, ← hkc]; exact hF
   have HU := Lib.hid (And.intro (units_len h) (fun u (hu : u ∈ units h) => units_lt hu))
   obtain ⟨ao2, cp2, rfl⟩ := hF2.own.shape
   rw [natsI_len] at *
   have HF2 := Lib.hid hF2
   obtain ⟨d0, d1, d2, d3⟩ := hF2.bG.mat
   clear hF hF2 HF hkc
   obtain ⟨us, hus0⟩ : ∃ us, units h = us := ⟨_, rfl⟩
   rw [hus0] at HU HF2 ⊢
   have HUS := Lib.hid hus0
   clear hus0
   have hus32 : us.length ≤ 32 := by have := HU.out.1; omega
   cases hus : us with
   | nil =>
    have hz : us.length = 0 := by rw [hus]; rfl
    have HN := Lib.hid hus
    rw [hz] at *
    clear hus d0 d1 d2 d3
    go_wp2
    go_ret2
    refine ⟨_, rfl, ?_, HF2.out.bl⟩
    rw [HUS.out, HN.out]
    exact ⟨none, 0, rfl, Nat.le_refl _, by unfold maxLen; omega, fun hh => absurd hh (by simp [intsV, natsI, basU, basisL_nil])⟩
   | cons u0 ur =>
    have hpos : 0 < us.length := by rw [hus]; simp
    rw [← hus]
    clear hus
    have hne0 : ((us.length : Int) == 0) = false := by rw [beq_eq_false_iff_ne]; omega
    clear HR
    go_wp2_with first
     | (go_at_call 141; refine (HP.out g cp HC.out.1 HC.out.2 us hus32 hpos (fun u hu => by have := HU.out.2 u hu; rw [HL.out] at this; exact this) _ wr HF2.out.bM HF2.out.own.row).mono ?_; rintro e w2 ⟨g2, cp3, rfl, q1, q2, q3, q4, q5⟩; have HT2 := Lib.hid ((HT.out.below HF2.out.bl).below q5); unfold matV)
     | (go_at_call 142; refine (HI.out us g2 cp3 q1 q2 hus32 hpos _ (HT2.out.below (al_below w2 _)) (q4.below (al_below w2 _))).mono ?_; rintro e w3 ⟨v3, rfl, p1, p2⟩; replace p1 : RowI w3 v3 (intsV (natsI (basisL c us))) := p1; have P1 := Lib.hid p1; obtain ⟨ao3, cp4, rfl, -, -, -⟩ := p1; rw [intsV_len, natsI_len] at *)
    have HB3 := Lib.hid (show Below w.heap.size w w3 ∧ RowI w3 (.slice ao2 us.length cp2) (intsV (natsI us)) from by
     have b1 := (q5.trans ((al_below w2 _).mono q5.size)).trans (p2.mono (Nat.le_trans q5.size (al_below w2 _).size))
     exact ⟨HF2.out.bl.trans (b1.mono HF2.out.bl.size), HF2.out.own.row.below b1⟩)
    have HQ := Lib.hid (And.intro (fun p hp => basisL_lt HX.out (us := us) (p := p) hp) (basisL_le HX.out us))
    have HE := Lib.hid (show basU c us = (basisL c us).map fun p => (us[p]?).getD 0 from rfl)
    clear q1 q2 q3 q4 q5 p2 HT2 d0 d1 d2 d3 HP HI HT HC
    generalize basisL c us = ps at *
    have hps32 : (ps.length : Int) ≤ 32 := by have := HQ.out.2; omega
    go_loopw [13, 55] (fun v k wr => BtSt w3 us ps v k wr) (fun _ k _ => ps.length - (intOf k).toNat)
    case atStart => exact ⟨⟨0, Nat.zero_le _, rfl, OwnI.nil _ _, Below.refl _ _⟩⟩
    case round =>
     clear HF2
     obtain ⟨k, hk, rfl, ho, hb⟩ := hrel.st
     clear hrel
     have HF := Lib.hid (And.intro ho hb)
     by_cases hlt2 : k < ps.length
     ·have hltd2 : decide ((k : Int) < (ps.length : Int)) = true := decide_eq_true (by omega)
      have hwk : IntKind.i64.wrap ((k : Int) + 1) = (k : Int) + 1 := IntWalk.i64_in _ (by omega)
      obtain ⟨q, hq⟩ : ∃ q, ps[k]? = some q := ⟨_, List.getElem?_eq_getElem hlt2⟩
      have hqu : q < us.length := HQ.out.1 q (List.mem_of_getElem? hq)
      obtain ⟨u, hu⟩ : ∃ u, us[q]? = some u := ⟨_, List.getElem?_eq_getElem hqu⟩
      obtain ⟨_, _, hv1, -, -, hr1⟩ := HB3.out.2
      obtain ⟨_, _, hv2, -, -, hr2⟩ := P1.out
      simp only [Value.slice.injEq] at hv1 hv2
      obtain ⟨rfl, -, rfl⟩ := hv1
      obtain ⟨rfl, -, rfl⟩ := hv2
      obtain ⟨b1, o1, rfl, hl1, hc1⟩ := hr1 (by rw [intsV_len, natsI_len]; omega)
      obtain ⟨b2, o2, rfl, hl2, hc2⟩ := hr2 (by rw [intsV_len, natsI_len]; omega)
      have e1 := (hb.cell (p := ⟨b1, o1 + q, none⟩) hl1).trans (hc1 q _ (natsI_at hu))
      have e2 := (hb.cell (p := ⟨b2, o2 + k, none⟩) hl2).trans (hc2 k _ (natsI_at hq))
      have HTK := Lib.hid (show ((ps.take (k + 1)).map fun p => (us[p]?).getD 0) = ((ps.take k).map fun p => (us[p]?).getD 0) ++ [u] by
       rw [List.take_add_one, hq, List.map_append]; simp [hu])
      have hsz := hb.size
      have HLT := Lib.hid (show (natsI ((ps.take k).map fun p => (us[p]?).getD 0)).length ≤ 100000 by rw [natsI_len, List.length_map, List.length_take]; omega)
      clear ho hb hq hu hr1 hr2 hc1 hc2 hl1 hl2
      go_wp2_with (at_builtin; refine wpList_apN rfl _ _ rfl rfl rfl HF.out.1 HLT.out hsz ?_; intro v' w9 h9 h10)
      go_roundw
      case rel => exact ⟨⟨k + 1, hlt2, rfl, by rw [HTK.out, natsI_app]; exact h9, HF.out.2.trans (((al_below wr _).mono hsz).trans h10)⟩⟩
      case measure => simp only [intOf]; omega
     ·have hke : k = ps.length := by omega
      have hltd2 : decide ((k : Int) < (ps.length : Int)) = false := decide_eq_false (by omega)
      have hltp2 : ¬ (k : Int) < (ps.length : Int) := by omega
      have HZ := Lib.hid (show OwnI w3.heap.size wr u13 (natsI (basU c us)) by rw [HE.out]; rw [hke, List.take_length] at ho; exact ho)
      clear ho hb hke
      go_wp2
      go_ret2
      rw [HUS.out]
      exact ⟨_, rfl, HZ.out.row, HB3.out.1.trans (HF.out.2.mono HB3.out.1.size)⟩
end Go.Proofs.YteikbikopgabjaaGreatDoor
namespace Go.Proofs.YteikbikopgabjaaGreatDoor
open Go.RowKit Go.GF Go.Sl
end Go.Proofs.YteikbikopgabjaaGreatDoor
end
section
namespace Go.GF
open Go Go.RowKit
def genX (c : CodeM) (us : List Nat) : Mat := fun j => c.gen ((us[j]?).getD 0)
end Go.GF
namespace Go.Sl
open Go Go.RowKit Go.GF
theorem rowS_row {w : World} {F : HProp} {T : TypeId} {g : Nat × Nat} {C : Nat} {f : Nat → Nat} (h : Sat w (rowS T g C f * F)) : RowI w (hdrV C g) (intsV (lineI f C)) := by
 obtain ⟨c, ⟨h1, h2, h3, h4⟩, hs⟩ := rowS_iff.1 h
 refine ⟨some ⟨g.1, 0, none⟩, g.2, by unfold hdrV; rw [intsV_len, lineI_len], by rw [intsV_len, lineI_len]; exact h1, h2, fun _ => ⟨g.1, 0, rfl, hs.lt, fun j u hu => ?_⟩⟩
 rw [Nat.zero_add, cells_at hs.block]
 have hj : j < C := by have := (List.getElem?_eq_some_iff.1 hu).1; rw [intsV_len, lineI_len] at this; exact this
 rw [intsV_at (lineI_at f hj)] at hu
 cases hu
 exact h4 j hj
def rowsS (TR TI : TypeId) (v : Value) (n C : Nat) (g : Nat → Nat × Nat) (M : Mat) : HProp := ownAt TR 1 v n (hdrsL C g n) * bigs n fun i => rowS TI (g i) C (M i)
theorem rowsS_rows {w : World} {F : HProp} {TR TI : TypeId} {v : Value} {n C : Nat} {g : Nat → Nat × Nat} {M : Mat} (h : Sat w (rowsS TR TI v n C g M * F)) : RowsI w v (linesI M n C) := by
 refine ⟨hdrsL C g n, rowV_own (hdrsL_len _ _ _) (h.perm (show _ = ownAt TR 1 v n (hdrsL C g n) * ((bigs n fun i => rowS TI (g i) C (M i)) * F) by unfold rowsS; ac_rfl)), by rw [hdrsL_len, linesI_len], fun i x hx => ?_⟩
 have hi : i < n := by have := (List.getElem?_eq_some_iff.1 hx).1; rw [hdrsL_len] at this; exact this
 rw [hdrsL_at hi] at hx
 cases hx
 refine ⟨_, linesI_at M hi, rowS_row (T := TI) (F := ownAt TR 1 v n (hdrsL C g n) * (bigs n (hole (fun i => rowS TI (g i) C (M i)) i) * F)) (h.perm ?_)⟩
 unfold rowsS
 rw [bigs_pick hi]
 ac_rfl
end Go.Sl
namespace Go.Proofs.YteikbikopgabjaaGreatDoor
open Go.RowKit Go.GF Go.Sl
structure BaW (w1 : World) (c : CodeM) (us : List Nat) (ov rv : Value) (g : Nat → Nat × Nat) (wr : World) : Prop where
 same : Same w1 wr
 sat : Sat wr (ownAt TI 1 ov (natsI us).length (intsV (natsI us)) * (rowsS TRo TI rv us.length c.k g (genX c us) * old w1))
theorem BaW.bel {w1 wr : World} {c : CodeM} {us : List Nat} {ov rv : Value} {g : Nat → Nat × Nat} (h : BaW w1 c us ov rv g wr) : Below w1.heap.size w1 wr :=
 h.same.below_of (h.sat.perm (show _ = (ownAt TI 1 ov (natsI us).length (intsV (natsI us)) * rowsS TRo TI rv us.length c.k g (genX c us)) * old w1 by ac_rfl))
theorem BaW.rows {w1 wr : World} {c : CodeM} {us : List Nat} {ov rv : Value} {g : Nat → Nat × Nat} (h : BaW w1 c us ov rv g wr) : RowsI wr rv (linesI (genX c us) us.length c.k) :=
 rowsS_rows (h.sat.perm (show _ = rowsS TRo TI rv us.length c.k g (genX c us) * (ownAt TI 1 ov (natsI us).length (intsV (natsI us)) * old w1) by ac_rfl))
theorem BaW.below {w1 wr w' : World} {c : CodeM} {us : List Nat} {ov rv : Value} {g : Nat → Nat × Nat} (h : BaW w1 c us ov rv g wr) (hb : Below wr.heap.size wr w') : BaW w1 c us ov rv g w' := ⟨h.same.below hb, h.sat.below hb⟩
end Go.Proofs.YteikbikopgabjaaGreatDoor
namespace Go.Proofs.YteikbikopgabjaaGreatDoor
open Go.RowKit Go.GF Go.Sl
theorem exec_appG {a : Act} {w : World} {o : Oper} {x y : Operand} {t : TypeId} {v u v' : Value} {w' : World} (ho : o.op = .call { callee := .builtin .append, args := #[x, y], argTypes := #[t, t] }) (hx : a.eval x = v) (hy : a.eval y = u)
  (h : (Builtin.append_ #[t, t] o.type #[v, u]).run Tryz.prog w = .ok v' w') : (execOp a.eval o).run Tryz.prog w = .ok (.value v') w' := by
 unfold execOp
 simp only [ho, resolve, invoke, builtin, Sem.run_bind, Sem.run_pure, Result.andThen_ok, List.map_toArray, List.map_cons, List.map_nil, hx, hy, h]
structure CoW (w1 : World) (c : CodeM) (us : List Nat) (n : Nat) (rv : Value) (g : Nat → Nat × Nat) (wr : World) : Prop where
 same : Same w1 wr
 sat : Sat wr (rowsS TRo TI rv n c.k g (genX c us) * old w1)
theorem CoW.bel {w1 wr : World} {c : CodeM} {us : List Nat} {n : Nat} {rv : Value} {g : Nat → Nat × Nat} (h : CoW w1 c us n rv g wr) : Below w1.heap.size w1 wr := h.same.below_of h.sat
theorem CoW.below {w1 wr w' : World} {c : CodeM} {us : List Nat} {n : Nat} {rv : Value} {g : Nat → Nat × Nat} (h : CoW w1 c us n rv g wr) (hb : Below wr.heap.size wr w') : CoW w1 c us n rv g w' := ⟨h.same.below hb, h.sat.below hb⟩
end Go.Proofs.YteikbikopgabjaaGreatDoor
namespace Go.Proofs.YteikbikopgabjaaGreatDoor
open Go.RowKit Go.GF Go.Sl
abbrev TTe : TypeId := 179
theorem info_term : (Tryz.prog.info? TTe).map (fun i => (i.zero, i.size, i.bytes)) = some (some (.agg #[.int .i64 0, .int .i64 0]), 2, 16) := by kernel_rfl
structure CmS (w1 : World) (n : Nat) (tv iv : Value) (wr : World) : Prop where
 st : ∃ (i k : Nat) (xs : List Value), i ≤ n ∧ k ≤ i ∧ iv = .int .i64 (i : Int) ∧ Same w1 wr ∧ Sat wr (ownAt TTe 2 tv k xs * old w1)
end Go.Proofs.YteikbikopgabjaaGreatDoor
end
