import Derived.Test.YteikbikopgabjaaGreatDoorH51
import Derived.Test.YteikbikopgabjaaGreatDoorH46
import Derived.Test.YteikbikopgabjaaGreatDoorH47
/- Part 52 of a proof; the last part says what is proved. -/
section
namespace Go.Proofs.YteikbikopgabjaaGreatDoor
open Go.RowKit Go.Sha Go.Sl Go.GF Go.Vol Go.Loss
theorem load_short {w : World} {g : Nat} {f : Nat → Nat} (hb : w.heap[g]? = some (.cells (arrK .u8 32 f) TB (0, 0))) : (loadVar TD ⟨g, 0, none⟩).run Tryz.prog w = .ok (.agg (arrK .u8 16 f)) w := by
 have := run_loadVar_mid (P := Tryz.prog) w g 0 TD (arrK .u8 16 f).toList _ (fun j v hv => by
  rw [Array.getElem?_toList] at hv
  have hj : j < 16 := by have := (Array.getElem?_eq_some_iff.1 hv).1; rwa [arrK_size] at this
  rw [arrK_at _ _ _ hj] at hv
  rw [cells_at hb, Nat.zero_add, arrK_at _ _ _ (by omega)]; exact hv) Tryz.underlying67 rfl (by rw [Array.length_toList, arrK_size]; kernel_rfl)
 rwa [Array.toArray_toList] at this
theorem arrK8_one (n : Nat) (f : Nat → Nat) : ∀ v ∈ (arrK .u8 n f).toList, v.oneCell' = true := by
 intro v hv
 unfold arrK at hv
 simp at hv
 obtain ⟨j, _, rfl⟩ := hv
 rfl
set_option maxRecDepth 20000 in
set_option maxHeartbeats 1000000 in
theorem dshort_any (bv : Value) (l : List UInt8) (hl : l.length = 35) (w : World) (hr : RowI w bv (b8 l)) (hD : TabD w) (hS : TabS w) :
  Calls Tryz.prog 76 #[bv] w fun e w' => e = .returned (.agg (arrK .u8 16 (Go.Sha.sumN l))) ∧ Below w.heap.size w w' := by
 have HSU := Lib.hid (fun W (h : Below w.heap.size w W) => dsum_any bv l hl W (hr.below h) (hD.below h) (hS.below h))
 obtain ⟨ab, cb, rfl, -⟩ := id hr
 rw [b8_len] at *
 rw [hl] at HSU ⊢
 have HB0 := Lib.hid (al_below w (.cells zD TD))
 have HW0 := Lib.hid (And.intro ((Same.refl w).alloc (.cells zD TD)) ((Sat.old w).alloc (.cells zD TD)))
 generalize Go.Sha.sumN l = f at HSU ⊢
 have HA1 := Lib.hid (And.intro (arrK_size .u8 32 f) (arrK8_one 32 f))
 have HA2 := Lib.hid (And.intro (arrK_size .u8 16 f) (arrK8_one 16 f))
 have HLD := Lib.hid (fun (W : World) (g : Nat) (h : W.heap[g]? = some (.cells (arrK .u8 32 f) TB (0, 0))) => load_short h)
 generalize arrK .u8 32 f = A at HSU HA1 HLD
 generalize arrK .u8 16 f = A' at HA2 HLD ⊢
 clear hr hD hS hl
 go_enter Tryz.func76, Tryz.ntmps76
 go_upto_region 1 with ((with_reducible (refine wpList_alloc_zero ?_ TD ?_ _ (zeroD _) ?_)); rfl; rfl)
 generalize w.alloc (.cells zD TD) = w1 at HB0 HW0 ⊢
 generalize w.heap.size = g2 at HW0 ⊢
 go_upto_region 2 with (first
  | (go_at_call 102; refine (HSU.out w1 HB0.out).mono ?_; rintro e w2 ⟨rfl, h2⟩; have HW2 := Lib.hid (And.intro ((HW0.out.1.below h2).alloc (.cells zB TB)) ((HW0.out.2.below h2).alloc (.cells zB TB))); clear h2)
  | ((with_reducible (refine wpList_alloc_zero ?_ TB ?_ _ (zeroB _) ?_)); rfl; rfl; generalize w2.alloc (.cells zB TB) = w3 at HW2 ⊢; generalize w2.heap.size = g3 at HW2 ⊢)
  | (refine wpList_store_blk (T := TB) (old := zB) (new := A) rfl rfl rfl rfl HW2.out.2 (infoB HA1.out.1) (by rw [HA1.out.1]; simp [zB]) HA1.out.2 ?_; intro w4 h4))
 have HW4 := Lib.hid (And.intro (HW2.out.1.trans h4.out.1) h4.out.2)
 clear h4 HW2
 have hld := HLD.out w4 g3 HW4.out.2.block
 refine wp_region_lit ?_
 (apply wpList_runG rfl); (go_simp; first | rfl | exact ⟨rfl, rfl⟩); simp only [Act.put, zq1, zq2, zq3]
 (apply wpList_runG rfl); (go_simp; first | rfl | exact ⟨rfl, rfl⟩); simp only [Act.put, zq1, zq2, zq3]
 refine wpList_runG (v := .agg A') rfl (exec_load_mid rfl rfl hld) ?_; simp only [Act.put, zq1, zq2, zq3]
 refine wpList_store_blk (T := TD) (old := zD) (new := A') rfl rfl rfl rfl (HW4.out.2.perm (show _ = pts g2 (.cells zD TD (0, 0)) * (pts g3 (.cells A TB (0, 0)) * old w) by ac_rfl)) (infoD HA2.out.1) (by rw [HA2.out.1]; rfl) HA2.out.2 ?_
 intro w5 h5
 refine wpList_nil ?_
 go_wp2
 refine bodyPost_ret (v := .agg A') ?_ rfl ⟨rfl, (HW4.out.1.trans h5.out.1).below_of (h5.out.2.perm (show _ = (pts g2 (.cells A' TD (0, 0)) * pts g3 (.cells A TB (0, 0))) * old w by ac_rfl))⟩
 exact results_cell_row Tryz.results76 _ _ g2 TD A' (0, 0) _ rfl h5.out.2.block Tryz.underlying67 rfl (infoD HA2.out.1)
set_option maxRecDepth 20000 in
set_option maxHeartbeats 1000000 in
theorem dof_any (s : List UInt8) (hs : s.length = 32) (b off cap : Nat) (w : World) (hb : w.cell? ⟨b, off, none⟩ = some (.string (strL s))) (hD : TabD w) (hS : TabS w) :
  Calls Tryz.prog 52 #[.int .i64 3, .slice (some ⟨b, off, none⟩) 1 cap] w fun e w' => e = .returned (.agg (digM s)) ∧ Below w.heap.size w w' := by
 have HIN := Lib.hid (fun W (h : Below w.heap.size w W) => dinput_any s hs b off cap W ((h.cell (p := ⟨b, off, none⟩) (World.block_lt_of_cell? _ _ hb)).trans hb))
 have hl : ([3] ++ lenB s).length = 35 := by unfold lenB; simp [hs]
 have HTD := Lib.hid (fun W (h : Below w.heap.size w W) => And.intro (hD.below h) (hS.below h))
 have HSO := Lib.hid (fun v W (hr : RowI W v (b8 ([3] ++ lenB s))) h1 h2 => dshort_any v ([3] ++ lenB s) hl W hr h1 h2)
 have HDM := Lib.hid (show digM s = arrK .u8 16 (Go.Sha.sumN ([3] ++ lenB s)) from rfl)
 have HB0 := Lib.hid (al_below w (.cells zD TD))
 have HW0 := Lib.hid (And.intro ((Same.refl w).alloc (.cells zD TD)) ((Sat.old w).alloc (.cells zD TD)))
 have HDZ := Lib.hid (And.intro (digM_size s) (digM_one s))
 rw [← HDM.out] at HSO
 generalize digM s = DD at HSO HDZ HDM ⊢
 generalize [3] ++ lenB s = m at HIN HSO hl
 clear hb hD hS HDM hl
 go_enter Tryz.func52, Tryz.ntmps52
 go_upto_region 1 with ((with_reducible (refine wpList_alloc_zero ?_ TD ?_ _ (zeroD _) ?_)); rfl; rfl)
 generalize w.alloc (.cells zD TD) = w1 at HB0 HW0 ⊢
 obtain ⟨g4, hg4⟩ : ∃ g, g = w.heap.size := ⟨_, rfl⟩
 rw [← hg4] at HW0 ⊢
 have HG4 := Lib.hid hg4
 clear hg4
 go_wp2_with (first
  | (go_at_call 77; refine (HIN.out w1 HB0.out).mono ?_; rintro e w2 ⟨v2, rfl, h2, h3⟩; have H2 := Lib.hid (And.intro (h2.below_of h3) (own8_row h3)); clear h2 h3; have HB2 := Lib.hid (HB0.out.trans (H2.out.1.mono HB0.out.size)); have HT2 := Lib.hid (HTD.out w2 HB2.out))
  | (go_at_call 76; refine (HSO.out v2 w2 H2.out.2 HT2.out.1 HT2.out.2).mono ?_; rintro e w3 ⟨rfl, h3⟩; have HW3 := Lib.hid (And.intro ((HW0.out.1.below H2.out.1).below h3) ((HW0.out.2.below H2.out.1).below h3)); clear h3)
  | (refine wpList_store_blk (T := TD) (old := zD) (new := DD) rfl rfl rfl rfl HW3.out.2 (infoD HDZ.out.1) (by rw [HDZ.out.1]; rfl) HDZ.out.2 ?_; intro w4 h4))
 refine bodyPost_ret (v := .agg DD) ?_ rfl ⟨rfl, (HW3.out.1.trans h4.out.1).below_of h4.out.2⟩
 exact results_cell_row Tryz.results52 _ _ g4 TD DD (0, 0) _ rfl h4.out.2.block Tryz.underlying67 rfl (infoD HDZ.out.1)
def matchP (L : List ChM) (u : List UInt8) : List Int := if u.length = 32 then lostL L u else []
set_option maxRecDepth 20000 in
set_option maxHeartbeats 1000000 in
theorem match_any (pt b cp : Nat) (rb : Nat → Nat) (L : List ChM) (u : List UInt8) (hu : u.length ≤ 1000) (w : World) (hT : TabR w pt b cp rb L) (hD : TabD w) (hS : TabS w) :
  Calls Tryz.prog 26 #[.pointer (some ⟨pt, 0, none⟩), .string (strL u)] w fun e w' => ∃ v, e = .returned v ∧ Same w w' ∧ Sat w' (ownAt TI 1 v (matchP L u).length (intsV (matchP L u)) * old w) := by
 have hsz := strL_size u
 by_cases h32 : u.length = 32
 ·have hne : ((u.length : Int) != 32) = false := by simp [h32]
  have HW0 := Lib.hid (And.intro ((Same.refl w).alloc (.cells #[.string (strL u)] 9)) ((Sat.old w).alloc (.cells #[.string (strL u)] 9)))
  have HB0 := Lib.hid (al_below w (.cells #[.string (strL u)] 9))
  have HOF := Lib.hid (dof_any u h32 w.heap.size 0 1 (w.alloc (.cells #[.string (strL u)] 9)) (by rw [cells_at HW0.out.2.block]; rfl) (hD.below HB0.out) (hS.below HB0.out))
  have HLO := Lib.hid (fun W (h : Below w.heap.size w W) => lost_any pt b cp rb L u W (hT.below h))
  have HM := Lib.hid (show matchP L u = lostL L u from if_pos h32)
  generalize digM u = DD at HOF HLO
  generalize hss : strL u = ss at *
  have HU := Lib.hid hu
  clear hss hT hD hS h32 hu
  go_enter Tryz.func26, Tryz.ntmps26
  go_wp2_with (first
   | (go_at_call 52; refine HOF.out.mono ?_; rintro e w2 ⟨rfl, h2⟩; have HB2 := Lib.hid (HB0.out.trans (h2.mono HB0.out.size)); clear h2)
   | (go_at_call 51; refine (HLO.out w2 HB2.out).mono ?_; rintro e w3 ⟨v3, rfl, h3, h4⟩; have H3 := Lib.hid (And.intro h3 h4); clear h3 h4))
  go_ret
  rw [HM.out]
  exact ⟨_, rfl, ((Same.refl w).below HB2.out).trans H3.out.1, H3.out.2.of_all ((Sat.old w).below HB2.out)⟩
 ·have hne : ((u.length : Int) != 32) = true := by simp; omega
  have HM := Lib.hid (show matchP L u = [] from if_neg h32)
  clear hT hD hS
  go_enter Tryz.func26, Tryz.ntmps26
  go_wp2
  go_ret
  rw [HM.out]
  exact ⟨_, rfl, Same.refl w, ownAt_nil.2 (Sat.old w)⟩
end Go.Proofs.YteikbikopgabjaaGreatDoor
end
section
namespace Go.Proofs.YteikbikopgabjaaGreatDoor
open Go.RowKit Go.Sha Go.Sl Go.GF Go.Vol Go.Loss
theorem matchP_len (L : List ChM) (u : List UInt8) : (matchP L u).length ≤ L.length := by
 unfold matchP
 split
 ·exact lostL_len L u
 ·exact Nat.zero_le _
end Go.Proofs.YteikbikopgabjaaGreatDoor
end
section
namespace Go.Proofs.YteikbikopgabjaaGreatDoor
open Go.RowKit Go.GF Go.Sl Go.Vol Go.Sha
abbrev tabLaid4 : List (String × DataW Unit) := [("solvent/solventref02.constants", Rows.laid_solvent_solventref02_constants), ("solvent/digest.constants", Rows.laid_solvent_digest_constants), ("solvent/digest.start", Rows.laid_solvent_digest_start), ("solvent/field.fields", Rows.laid_solvent_field_fields)]
set_option maxRecDepth 100000 in
theorem door_met4 (os : Os) (args : Array Value) : laidMetH Tryz.prog tabLaid4 ((World.doorLaid Tryz.prog 31 os).forCall (fun _ _ => 0) ⟨#[], args, []⟩).memory :=
 laidMetH_of_parts3 (fuel := 8) (laidMet_of_run' 8 (by kernel_rfl) (by kernel_rfl)) (by kernel_rfl) (by kernel_rfl)
def dsE : List (DataW Unit) := match (Rows.laid_solvent_digest_constants : DataW Unit) with | .agg l => l | _ => []
theorem dsE_is : (Rows.laid_solvent_digest_constants : DataW Unit) = .agg dsE := rfl
def okE (i : Nat) : Bool := match dsE[i]? with | some (.lit (.int .u32 n)) => n == ((kM i : Nat) : Int) | _ => false
theorem okE_all : ∀ i, i < 64 → okE i = true := by decide +kernel
theorem tabGE : Tryz.prog.globalNamed "solvent/digest.constants" = some 2 := by kernel_rfl
theorem tabTE : (Tryz.prog.globals[2]?).map (·.type) = some 221 := by kernel_rfl
def dsS : List (DataW Unit) := match (Rows.laid_solvent_digest_start : DataW Unit) with | .agg l => l | _ => []
theorem dsS_is : (Rows.laid_solvent_digest_start : DataW Unit) = .agg dsS := rfl
def okS (i : Nat) : Bool := match dsS[i]? with | some (.lit (.int .u32 n)) => n == ((st8 startM i : Nat) : Int) | _ => false
theorem okS_all : ∀ i, i < 8 → okS i = true := by decide +kernel
theorem tabGS : Tryz.prog.globalNamed "solvent/digest.start" = some 0 := by kernel_rfl
theorem tabTS : (Tryz.prog.globals[0]?).map (·.type) = some 215 := by kernel_rfl
set_option maxRecDepth 40000 in
theorem tabs_of_laid4 {W : World} (h : laidMetH Tryz.prog tabLaid4 W) : TabK W ∧ TabF W ∧ TabD W ∧ TabS W := by
 rw [MakeChecks.laidMetH_plain _ _ _ (by kernel_rfl)] at h
 obtain ⟨ps, ⟨g1, t1, cs1, fuel1, p1, q1, hg1, ht1, hvar1, hd1, h2, _⟩, _⟩ := h
 obtain ⟨g2, t2, cs2, fuel2, p2, q2, hg2, ht2, hvar2, hd2, h3, _⟩ := h2
 obtain ⟨g3, t3, cs3, fuel3, p3, q3, hg3, ht3, hvar3, hd3, h4, _⟩ := h3
 obtain ⟨g4, t4, cs4, fuel4, p4, q4, hg4, ht4, hvar4, hd4, _, _⟩ := h4
 refine ⟨?_, ?_, ?_, ?_⟩
 ·obtain rfl := Option.some.inj (tabGK.symm.trans hg1)
  obtain rfl := Option.some.inj (tabTK.symm.trans ht1)
  have hc := fun i (u : Value) (hu : cs1[i]? = some u) => (World.var?_cell tabGK hvar1 i).trans hu
  rw [dsK_is] at hd1
  obtain ⟨m, hl, ha⟩ := trod_arr Tryz.underlying221 hd1
  have k2 : Tryz.prog.cellsOf 86 = 1 := by kernel_rfl
  rw [k2] at ha
  intro j hj
  obtain ⟨d, q', e0, t0⟩ := ha j hj
  obtain ⟨n, hcn, hdn, _⟩ := DataW.trod_int Tryz.underlying86 t0
  have hk := okK_all j hj
  unfold okK at hk
  obtain rfl : d = .lit (.int .u32 n) := congrArg Prod.fst hdn
  rw [e0] at hk
  have hn : n = ((kM j : Nat) : Int) := by simpa using hk
  rw [hn] at hcn
  have h3 : cs1.toList[j]? = some (.int .u32 ((kM j : Nat) : Int)) := by
   have h4 := congrArg (fun l : List Value => l[0]?) hcn
   simpa [List.getElem?_take, List.getElem?_drop] using h4
  have := hc (j * 1) _ (by rw [Nat.mul_one, ← Array.getElem?_toList]; exact h3)
  first | exact this | (rw [Nat.zero_add]; exact this) | (rw [Nat.mul_one] at this; exact this) | (rw [Nat.mul_one, Nat.zero_add] at this; exact this) | simpa using this
 ·obtain rfl := Option.some.inj (tabG.symm.trans hg4)
  obtain rfl := Option.some.inj (tabT.symm.trans ht4)
  have hc := fun i (u : Value) (hu : cs4[i]? = some u) => (World.var?_cell tabG hvar4 i).trans hu
  obtain ⟨m, hl, ha⟩ := trod_arr Tryz.underlying241 hd4
  have k2 : Tryz.prog.cellsOf 240 = 2 := by kernel_rfl
  rw [show Tryz.prog.cellsOf 241 = 4 by kernel_rfl] at hl
  rw [k2] at ha
  obtain ⟨d0, q0, e0, t0⟩ := ha 0 (by decide)
  obtain ⟨d1, q1, e1, t1⟩ := ha 1 (by decide)
  obtain rfl := Option.some.inj e0
  obtain rfl := Option.some.inj e1
  have p0 := trod_pair t0
  have p1 := trod_pair t1
  obtain ⟨l⟩ := cs4
  match l, hl with
  | [x0, x1, x2, x3], _ =>
   simp at p0 p1
   obtain ⟨rfl, rfl⟩ := p0
   obtain ⟨rfl, rfl⟩ := p1
   exact ⟨hc 0 _ rfl, hc 1 _ rfl, hc 2 _ rfl, hc 3 _ rfl⟩
 ·obtain rfl := Option.some.inj (tabGE.symm.trans hg2)
  obtain rfl := Option.some.inj (tabTE.symm.trans ht2)
  have hc := fun i (u : Value) (hu : cs2[i]? = some u) => (World.var?_cell tabGE hvar2 i).trans hu
  rw [dsE_is] at hd2
  obtain ⟨m, hl, ha⟩ := trod_arr Tryz.underlying221 hd2
  have k2 : Tryz.prog.cellsOf 86 = 1 := by kernel_rfl
  rw [k2] at ha
  intro j hj
  obtain ⟨d, q', e0, t0⟩ := ha j hj
  obtain ⟨n, hcn, hdn, _⟩ := DataW.trod_int Tryz.underlying86 t0
  have hk := okE_all j hj
  unfold okE at hk
  obtain rfl : d = .lit (.int .u32 n) := congrArg Prod.fst hdn
  rw [e0] at hk
  have hn : n = ((kM j : Nat) : Int) := by simpa using hk
  rw [hn] at hcn
  have h3 : cs2.toList[j]? = some (.int .u32 ((kM j : Nat) : Int)) := by
   have h4 := congrArg (fun l : List Value => l[0]?) hcn
   simpa [List.getElem?_take, List.getElem?_drop] using h4
  have := hc (j * 1) _ (by rw [Nat.mul_one, ← Array.getElem?_toList]; exact h3)
  first | exact this | (rw [Nat.zero_add]; exact this) | (rw [Nat.mul_one] at this; exact this) | (rw [Nat.mul_one, Nat.zero_add] at this; exact this) | simpa using this
 ·obtain rfl := Option.some.inj (tabGS.symm.trans hg3)
  obtain rfl := Option.some.inj (tabTS.symm.trans ht3)
  have hc := fun i (u : Value) (hu : cs3[i]? = some u) => (World.var?_cell tabGS hvar3 i).trans hu
  rw [dsS_is] at hd3
  obtain ⟨m, hl, ha⟩ := trod_arr Tryz.underlying215 hd3
  have k2 : Tryz.prog.cellsOf 86 = 1 := by kernel_rfl
  rw [k2] at ha
  intro j hj
  obtain ⟨d, q', e0, t0⟩ := ha j hj
  obtain ⟨n, hcn, hdn, _⟩ := DataW.trod_int Tryz.underlying86 t0
  have hk := okS_all j hj
  unfold okS at hk
  obtain rfl : d = .lit (.int .u32 n) := congrArg Prod.fst hdn
  rw [e0] at hk
  have hn : n = ((st8 startM j : Nat) : Int) := by simpa using hk
  rw [hn] at hcn
  have h3 : cs3.toList[j]? = some (.int .u32 ((st8 startM j : Nat) : Int)) := by
   have h4 := congrArg (fun l : List Value => l[0]?) hcn
   simpa [List.getElem?_take, List.getElem?_drop] using h4
  have := hc (j * 1) _ (by rw [Nat.mul_one, ← Array.getElem?_toList]; exact h3)
  first | exact this | (rw [Nat.zero_add]; exact this) | (rw [Nat.mul_one] at this; exact this) | (rw [Nat.mul_one, Nat.zero_add] at this; exact this) | simpa using this
end Go.Proofs.YteikbikopgabjaaGreatDoor
end
section
namespace Go.Proofs.YteikbikopgabjaaGreatDoor
open Go.RowKit Go.Sha Go.Sl Go.GF Go.Vol Go.Loss
theorem wpList_append_rO {ops : Array Oper} {rest : List Oper} {o : Oper} {a : Act} {Q : Exit → Act → World → Prop} {F : HProp} {w : World} (hg : o.guard = none) (s x : Operand) (t e : TypeId)
  (ho : o.op = .call { callee := .builtin .append, args := #[s, x], argTypes := #[t, t] }) (i : TypeInfo) (z : Value) (ht : Tryz.prog.underlying t = some (.slice e)) (hi : Tryz.prog.info? e = some i) (hz : i.zero = some z) {sz by_ : Nat} (hsz : i.size = sz) (hby : i.bytes = by_) (hzs : z.cells.size = sz)
  {v : Value} {n : Nat} {xs : List Value} (h : Sat w (ownAt e sz v n xs * F)) {y : Value} {m : Nat} (news : List Value) (hs : a.eval s = v) (hx : a.eval x = y) (hr : RowsO w y m news)
  (hl : news.length = m * sz) (h1 : ∀ u ∈ news, u.oneCell' = true) (h63 : n + m ≤ maxLen) (hbytes : (n + m) * by_ ≤ 140737488355328)
  (k : ∀ v' w', Hid (Same w w' ∧ Sat w' (ownAt e sz v' (n + m) (xs ++ news) * F)) → wpList Tryz.prog ops Q rest (a.put o.dst v') w') : wpList Tryz.prog ops Q (o :: rest) a w := by
 obtain ⟨ao, cap, rfl, hmax, h4⟩ := hr
 by_cases hm : m = 0
 ·subst hm
  have hnil : news = [] := List.eq_nil_of_length_eq_zero (by simpa using hl)
  subst hnil
  have hle : ∃ bo cp, v = .slice bo n cp ∧ n ≤ cp := by
   rcases ownAt_iff.1 h with ⟨rfl, rfl, _, _⟩ | ⟨g, cap, cur, ⟨rfl, h1, _⟩, _⟩
   ·exact ⟨_, _, rfl, Nat.le_refl _⟩
   ·exact ⟨_, _, rfl, h1⟩
  obtain ⟨bo, cp, rfl, hnc⟩ := hle
  have hrun := run_append_r0 (P := Tryz.prog) (w := w) t o.type e i ht hi bo ao n cp cap hnc
  refine wpList_run hg (v := .slice bo n cp) (w' := w) ?_ (k _ w ⟨Same.refl w, by simpa using h⟩)
  unfold execOp
  simp only [ho, resolve, invoke, builtin, Sem.run_bind, Sem.run_pure, Result.andThen_ok, List.map_toArray, List.map_cons, List.map_nil, hs, hx, hrun]
 ·obtain ⟨b, off, rfl, hb, hc⟩ := h4 (by omega)
  exact wpList_append_ownAt hg s x t e ho i z ht hi hz hsz hby hzs h news hs hx hl (fun j u hu => by rw [Addr.add_mid]; exact hc j u hu) h1 h63 hbytes k
section
variable {β : Type} {f g : Nat → ItM → β} {l : List ItM}
end
end Go.Proofs.YteikbikopgabjaaGreatDoor
end
section
namespace Go.Proofs.YteikbikopgabjaaGreatDoor
open Go.RowKit Go.Sha Go.Sl Go.GF Go.Vol Go.Loss
def lostO (o : Nat) (L : List ChM) (u : List UInt8) : List Int := ((L.zipIdx o).filter fun q => q.1.lost && sameD (unitL q.1.fill) u).map fun q => ((q.2 : Nat) : Int) + 1
theorem lostO_cons (o : Nat) (x : ChM) (L : List ChM) (u : List UInt8) : lostO o (x :: L) u = (if (x.lost && sameD (unitL x.fill) u) = true then [(o : Int) + 1] else []) ++ lostO (o + 1) L u := by
 unfold lostO
 rw [List.zipIdx_cons]
 cases h : (x.lost && sameD (unitL x.fill) u) with
 | true => simp only [List.filter_cons, h, if_true, List.map_cons, List.cons_append, List.nil_append]
 | false => simp only [List.filter_cons, h, if_false, Bool.false_eq_true, List.nil_append]
theorem lostO_lt (u : List UInt8) : ∀ (L : List ChM) (o : Nat) (z : Int), z ∈ lostO o L u → (o : Int) < z
 | [], o, z, h => by simp [lostO] at h
 | x :: L, o, z, h => by
  rw [lostO_cons] at h
  rcases List.mem_append.1 h with h | h
  ·split at h
   ·simp at h; omega
   ·simp at h
  ·have := lostO_lt u L (o + 1) z h
   omega
theorem heal_o (u : List UInt8) (x y : ChM) (hx : (x.lost && sameD (unitL x.fill) u) = true) (hy : y.lost = false) : ∀ (L : List ChM) (o k : Nat), L[k]? = some x →
  (lostO o (L.set k y) u).length + 1 = (lostO o L u).length ∧ ∀ z ∈ lostO o (L.set k y) u, z ≠ (o : Int) + (k : Int) + 1
 | [], o, k, h => by simp at h
 | a :: L, o, 0, h => by
  obtain rfl : a = x := by simpa using h
  rw [List.set_cons_zero, lostO_cons, lostO_cons, if_pos hx, if_neg (by rw [hy]; simp)]
  refine ⟨by simp, fun z hz => ?_⟩
  rw [List.nil_append] at hz
  have := lostO_lt u L (o + 1) z hz
  omega
 | a :: L, o, k + 1, h => by
  rw [List.getElem?_cons_succ] at h
  obtain ⟨h1, h2⟩ := heal_o u x y hx hy L (o + 1) k h
  rw [List.set_cons_succ, lostO_cons, lostO_cons, List.length_append, List.length_append]
  refine ⟨by omega, fun z hz => ?_⟩
  rcases List.mem_append.1 hz with hz | hz
  ·split at hz
   ·simp at hz; omega
   ·simp at hz
  ·have := h2 z hz
   push_cast at this ⊢
   omega
theorem sameD_self (a : List UInt8) : sameD a a = true := sameD_iff.2 rfl
theorem heal_match (L : List ChM) (x y : ChM) (hl : x.lost = true) (hy : y.lost = false) {k : Nat} (h : L[k]? = some x) :
  (matchP (L.set k y) (unitL x.fill)).length + 1 = (matchP L (unitL x.fill)).length ∧ ∀ (j : Nat) (z : Int), (matchP (L.set k y) (unitL x.fill))[j]? = some z → (z == (k : Int) + 1) = false := by
 have h0 := heal_o (unitL x.fill) x y (by rw [hl, sameD_self]; rfl) hy L 0 k h
 unfold matchP
 rw [if_pos (unitL_len _), if_pos (unitL_len _)]
 refine ⟨h0.1, fun j z hz => ?_⟩
 have := h0.2 z (List.mem_of_getElem? hz)
 simp only [beq_eq_false_iff_ne, ne_eq]
 omega
theorem heal_lostC (l : List ItM) {k : Nat} {x : ItM} (hx : l[k]? = some x) (y : ChM) (hy : y.lost = false) (c : Int) : lostC ((chunksM l).set k y) c = lostU (l.set k (x.1, false)) c := by
 have hk := (List.getElem?_eq_some_iff.1 hx).1
 unfold lostC lostU
 split
 ·by_cases hi : (c - 1).toNat = k
  ·rw [hi, List.getElem?_set_self (by rw [chunksM_len]; exact hk), List.getElem?_set_self hk]
   simp [hy]
  ·rw [List.getElem?_set_ne (fun e => hi e.symm), List.getElem?_set_ne (fun e => hi e.symm)]
   cases h : l[(c - 1).toNat]? with
   | none =>
    rw [List.getElem?_eq_none (by rw [chunksM_len]; exact List.getElem?_eq_none_iff.1 h)]
   | some x =>
    rw [chunksM_at h]
    obtain ⟨f, b⟩ := x
    cases b <;> rfl
 ·rfl
theorem itE_set1 (k : Nat) (l : List ItM) {x : ItM} (hx : l[k]? = some x) : (l.flatMap itE).set (k * 2 + 1) (.bool false) = (l.set k (x.1, false)).flatMap itE := by
 induction l generalizing k with
 | nil => simp at hx
 | cons y L ih =>
  cases k with
  | zero =>
   simp only [List.getElem?_cons_zero, Option.some.injEq] at hx
   subst hx
   simp [itE]
  | succ k =>
   rw [List.getElem?_cons_succ] at hx
   rw [List.set_cons_succ, List.flatMap_cons, List.flatMap_cons, List.set_append_right _ _ (by rw [itE_len]; omega), itE_len, show (k + 1) * 2 + 1 - 2 = k * 2 + 1 by omega, ih k hx]
def hundred : UK := ⟨(100, 1), by decide, by decide⟩
theorem hundred_v : ukV hundred = .agg #[.int .i64 100, .int .i64 0, .int .i64 1] := rfl
end Go.Proofs.YteikbikopgabjaaGreatDoor
end
