import Derived.Test.YteikbikopgabjaaGreatDoorH40
import Derived.Test.YteikbikopgabjaaGreatDoorH36
/- Part 41 of a proof; the last part says what is proved. -/
section
namespace Go.Proofs.YteikbikopgabjaaGreatDoor
open Go.RowKit Go.Sl Go.GF Go.Vol
def errT (b : Bool) : Int := if b then 0 else 11
def zerS (c : CodeM) (us : List Nat) (u : Nat) : Bool := decide (∀ i, i < c.k → redF c (rowsF c us) (c.gen u) i = 0)
theorem zerS_rec {c : CodeM} (hc : c.Ok) (h : List Bool) (u : Nat) : zerS c (basU c (units h)) u = recR c h u := by
 unfold zerS
 rw [Bool.eq_iff_iff, decide_eq_true_eq]
 exact recF_iff hc h u
theorem all_zero (f : Nat → Nat) (k : Nat) : ((lineI f k).all fun x => x == 0) = decide (∀ i, i < k → f i = 0) := by
 rw [Bool.eq_iff_iff, decide_eq_true_eq, List.all_eq_true]
 constructor
 ·intro h i hi
  have := h ((f i : Nat) : Int) (List.mem_of_getElem? (lineI_at f hi))
  simpa using this
 ·intro h x hx
  unfold lineI at hx
  obtain ⟨i, hi, rfl⟩ := List.mem_map.1 hx
  simpa using h i (List.mem_range.1 hi)
set_option maxRecDepth 20000 in
theorem terms1_any (x : Int) (w : World) : Calls Tryz.prog 123 #[.int .i64 x] w fun e w' => e = .returned (.bool (x == 0)) ∧ Below w.heap.size w w' := by
 go_enter Tryz.func123, Tryz.ntmps123
 go_wp2
 go_ret
 exact ⟨rfl, Below.refl _ _⟩
theorem terms1_run (args : Array Value) (w : World) : (callFunc 123 args).run Tryz.prog w = .ok (.enter 123 args) w := by kernel_rfl
set_option maxRecDepth 20000 in
set_option maxHeartbeats 4000000 in
theorem terms_any (cv : Array Value) (c : CodeM) (us : List Nat) (hus : us.length ≤ c.k) (w0 w : World) (gs : Nat) (hO : SpnO c cv us w0 gs w) (hT : TabF w0) (hc : CodeAt w0 cv c) (u : Nat) (hun : u < c.n) :
  Calls Tryz.prog 96 #[.pointer (some ⟨gs, 0, none⟩), .int .i64 (u : Int)] w fun e w' => ∃ v, e = .returned (.tuple #[v, .int .i64 (errT (zerS c us u))]) ∧ Below w0.heap.size w0 w' := by
 obtain ⟨nm, pv, dom, uv, rs, gr, gc, ro, rcp, wb, rfl, hb, huv, hro, hrow, hrl, hsm, hst⟩ := hO.at_
 have hok := hc.ok
 have hn32 := hc.n32
 have hck : c.k ≤ 32 := by unfold CodeM.n at hn32; omega
 have hbw := hsm.below_of hst
 have HBW := Lib.hid (And.intro hb hbw)
 have HTB := Lib.hid (hT.below hb)
 have HG := Lib.hid (gen_any (codeV nm (c.m : Int) (c.k : Int) pv dom) c w ((hT.below hb).below hbw) ((hc.below hb).below hbw))
 have HUV := Lib.hid huv
 obtain ⟨uo, ucp, rfl, -, -, -⟩ := huv
 rw [intsV_len] at HUV hst
 rw [natsI_len] at HUV hst
 have HS := Lib.hid (And.intro hsm (And.intro hst (And.intro hrl (And.intro hro hrow))))
 have hst2 := hst
 unfold spnS at hst2
 rw [star_assoc] at hst2
 have c0 : w.cell? ⟨gs, 0, none⟩ = some (.string nm) := by rw [cells_at hst2.block]; rfl
 have c1 : w.cell? ⟨gs, 1, none⟩ = some (.int .i64 (c.m : Int)) := by rw [cells_at hst2.block]; rfl
 have c2 : w.cell? ⟨gs, 2, none⟩ = some (.int .i64 (c.k : Int)) := by rw [cells_at hst2.block]; rfl
 have c3 : w.cell? ⟨gs, 3, none⟩ = some pv := by rw [cells_at hst2.block]; rfl
 have c4 : w.cell? ⟨gs, 4, none⟩ = some (.int .i64 dom) := by rw [cells_at hst2.block]; rfl
 have HOK := Lib.hid hok
 clear hb hbw hT hc hsm hst hst2 hrl hro hrow hok
 unfold codeV at HG
 obtain ⟨b, hb⟩ : ∃ b, b = zerS c us u := ⟨_, rfl⟩
 have HBZ := Lib.hid hb
 rw [← hb]
 clear hb
 go_enter Tryz.func96, Tryz.ntmps96
 go_upto_region 2 with (first
  | (go_at_call 119; refine HG.out.mono ?_; rintro e w2 ⟨g, cp, rfl, h1, h2, h3, h4, h5⟩; have HM := Lib.hid (And.intro h1 (And.intro h2 (And.intro h4 h5))); have HA := Lib.hid ((Sat.old w2).alloc (.cells zmatV TM)); clear h1 h2 h3 h4 h5 c0 c1 c2 c3 c4)
  | ((with_reducible (refine wpList_alloc_zero ?_ TM ?_ _ (zeroMat _) ?_)); rfl; rfl)
  | (refine wpList_store_blk (T := TM) (old := zmatV) (new := matV c.m c.n c.k g cp) rfl rfl rfl rfl HA.out (infoM2 rfl) rfl (by simp [matV, Value.oneCell']) ?_; intro w4 h4))
 have hb24 : Below w2.heap.size w2 w4 := (((Same.refl w2).alloc (.cells zmatV TM)).trans h4.out.1).below_of h4.out.2
 have h2s : Sat w2 (spnS gs nm c.m pv dom (.slice uo us.length ucp) c.k us.length rs gr gc ro rcp * old wb) := HS.out.2.1.below HM.out.2.2.2
 have HS4 := Lib.hid (show Same wb w4 ∧ Sat w4 (pts w2.heap.size (.cells (matV c.m c.n c.k g cp) TM (0, 0)) * (spnS gs nm c.m pv dom (.slice uo us.length ucp) c.k us.length rs gr gc ro rcp * old wb)) from ⟨((HS.out.1.below HM.out.2.2.2).alloc (.cells zmatV TM)).trans h4.out.1, h4.out.2.of_all h2s⟩)
 have HMB := Lib.hid (HM.out.2.2.1.below hb24)
 have HCP := Lib.hid (And.intro HM.out.1 HM.out.2.1)
 clear hb24 h2s h4 HA HM
 generalize w2.heap.size = gG at HS4 ⊢
 have h3 : (u + 1) * c.k ≤ c.n * c.k := Nat.mul_le_mul_right c.k hun
 have h2 : (u + 1) * c.k = u * c.k + c.k := by rw [Nat.add_mul]; omega
 have h4 : c.n * c.k ≤ 32 * 32 := Nat.mul_le_mul hn32 hck
 have hw1 : IntKind.i64.wrap ((u : Int) * (c.k : Int)) = ((u * c.k : Nat) : Int) := by
  rw [show (u : Int) * (c.k : Int) = ((u * c.k : Nat) : Int) by simp]; exact wrap_nat (by omega)
 have hw2 : IntKind.i64.wrap ((u : Int) + 1) = ((u + 1 : Nat) : Int) := by
  rw [show (u : Int) + 1 = ((u + 1 : Nat) : Int) by simp]; exact wrap_nat (by omega)
 have hw3 : IntKind.i64.wrap (((u + 1 : Nat) : Int) * (c.k : Int)) = ((u * c.k + c.k : Nat) : Int) := by
  rw [← h2, show ((u + 1 : Nat) : Int) * (c.k : Int) = (((u + 1) * c.k : Nat) : Int) by simp]; exact wrap_nat (by omega)
 have hcp := HCP.out
 have hv : RowI w4.drew (.slice (some ⟨g, u * c.k, none⟩) c.k (cp - u * c.k)) (intsV (lineI (c.gen u) c.k)) := by
  refine ⟨_, _, by rw [intsV_len, lineI_len], by rw [intsV_len, lineI_len]; omega, by omega, fun _ => ⟨g, u * c.k, rfl, HMB.out.lt, fun j x hx => ?_⟩⟩
  have hj : j < c.k := by have := (List.getElem?_eq_some_iff.1 hx).1; rw [intsV_len, lineI_len] at this; exact this
  rw [intsV_at (lineI_at _ hj)] at hx
  cases hx
  exact HMB.out.cell hun hj
 have HS5 := Lib.hid (And.intro HS4.out.1.drew HS4.out.2.drew)
 have HC := Lib.hid (spred_any c HOK.out us.length (by omega) (by omega) rs (by have := HS.out.2.2.1; omega) HS.out.2.2.2.1 (c.gen u) (fun i _ => gen_lt HOK.out u i) gs gr gc (spV nm c.m c.k pv dom (.slice uo us.length ucp) ro rs.length rcp) _ ucp ro rcp rfl rfl rfl _ (pts gG (.cells (matV c.m c.n c.k g cp) TM (0, 0)) * old wb) wb w4.drew HTB.out HS5.out.1 ((Keeps.old wb).star _) hv (HS5.out.2.perm (by unfold spnS; ac_rfl)))
 have hn : cp ≠ u * c.k := by have := HOK.out.pos; omega
 have hlc : u * c.k + c.k ≤ cp := by omega
 have hsub : u * c.k + c.k - u * c.k = c.k := by omega
 clear hv
 have HRW := Lib.hid ((redAll_row c rs (c.gen u, fun _ => 0)).trans (congrArg (fun l => redF c l (c.gen u)) HS.out.2.2.2.2))
 generalize (redAll c rs (c.gen u, fun _ => 0)).1 = rest at HC HRW
 generalize (redAll c rs (c.gen u, fun _ => 0)).2 = cf at HC
 have HZ := Lib.hid (show zerS c us u = ((lineI rest c.k).all fun x => x == 0) by rw [all_zero, HRW.out]; rfl)
 refine reg_begin (fun W => W.cell? ⟨gs, 2, none⟩ = some (.int .i64 (c.k : Int)) ∧ W.cell? ⟨gG, 3, none⟩ = some (.slice (some ⟨g, 0, none⟩) (c.n * c.k) cp)) (by kernel_rfl) ?_
 have HSC := Lib.hid (show ∀ W X, Sat W (pts gs (.cells (spV nm c.m c.k pv dom (.slice uo us.length ucp) ro rs.length rcp) TSpn (0, 0)) * (pts gG (.cells (matV c.m c.n c.k g cp) TM (0, 0)) * X)) → W.cell? ⟨gs, 2, none⟩ = some (.int .i64 (c.k : Int)) ∧ W.cell? ⟨gG, 3, none⟩ = some (.slice (some ⟨g, 0, none⟩) (c.n * c.k) cp) from fun W X h => ⟨by rw [cells_at h.block]; rfl, by rw [cells_at h.right.block]; rfl⟩)
 have hS0 := HSC.out w4.drew _ (HS5.out.2.perm (show _ = pts gs (.cells (spV nm c.m c.k pv dom (.slice uo us.length ucp) ro rs.length rcp) TSpn (0, 0)) * (pts gG (.cells (matV c.m c.n c.k g cp) TM (0, 0)) * ((ownAt TRd 3 (.slice ro rs.length rcp) rs.length (rdE c.k us.length gr gc rs) * rdB c.k us.length gr gc rs) * old wb)) by unfold spnS; ac_rfl))
 generalize w4.drew = w5 at HC HS5 hS0 ⊢
 generalize c.n * c.k = N at *
 generalize hI : u * c.k = P at *
 generalize hJ : u + 1 = i1 at *
 generalize hQ : P + c.k = Q at *
 have hle : P ≤ Q := by omega
 clear h2 h3 h4 hI hJ
 (apply reg_take 0 rfl rfl (by decide +kernel) rfl); (intro w' hw'; go_simp; rfl); exact hS0; simp only [zq1, zq2, zq3]
 (apply reg_take 1 rfl rfl (by decide +kernel) rfl); (intro w' hw'; go_simp; rfl); exact hS0; simp only [zq1, zq2, zq3]
 refine reg_take 2 (v := .slice (some ⟨g, 0, none⟩) N cp) rfl rfl (by decide +kernel) rfl (fun w' h => exec_load_cell rfl rfl Tryz.underlying36 rfl h.2) hS0 ?_; simp only [zq1, zq2, zq3]
 (apply reg_take 3 rfl rfl (by decide +kernel) rfl); (intro w' hw'; go_simp; rfl); exact hS0; simp only [zq1, zq2, zq3]
 (apply reg_take 4 rfl rfl (by decide +kernel) rfl); (intro w' hw'; go_simp; rfl); exact hS0; simp only [zq1, zq2, zq3]
 (apply reg_take 5 rfl rfl (by decide +kernel) rfl); (intro w' hw'; go_simp; rfl); exact hS0; simp only [zq1, zq2, zq3]
 (apply reg_take 6 rfl rfl (by decide +kernel) rfl); (intro w' hw'; go_simp; rfl); exact hS0; simp only [zq1, zq2, zq3]
 (apply reg_take 7 rfl rfl (by decide +kernel) rfl); (intro w' hw'; go_simp; rfl); exact hS0; simp only [zq1, zq2, zq3]
 refine reg_take 8 (v := .int .i64 (c.k : Int)) rfl rfl (by decide +kernel) rfl (fun w' h => exec_load_cell rfl rfl Tryz.underlying3 rfl h.1) hS0 ?_; simp only [zq1, zq2, zq3]
 (apply reg_take 9 rfl rfl (by decide +kernel) rfl); (intro w' hw'; go_simp; rfl); exact hS0; simp only [zq1, zq2, zq3]
 (apply reg_take 10 rfl rfl (by decide +kernel) rfl); (intro w' hw'; go_simp; rfl); exact hS0; simp only [zq1, zq2, zq3]
 (apply reg_take 11 rfl rfl (by decide +kernel) rfl); (intro w' hw'; go_simp; rfl); exact hS0; simp only [zq1, zq2, zq3]
 (apply reg_take 12 rfl rfl (by decide +kernel) rfl); (intro w' hw'; go_simp; rfl); exact hS0; simp only [zq1, zq2, zq3]
 (apply reg_take 13 rfl rfl (by decide +kernel) rfl); (intro w' hw'; go_simp; rfl); exact hS0; simp only [zq1, zq2, zq3]
 (apply reg_take 14 rfl rfl (by decide +kernel) rfl); (intro w' hw'; go_simp; rfl); exact hS0; simp only [zq1, zq2, zq3]
 (apply reg_take 15 rfl rfl (by decide +kernel) rfl); (intro w' hw'; go_simp; rfl); exact hS0; simp only [zq1, zq2, zq3]
 refine reg_take 16 (v := .int .i64 (c.k : Int)) rfl rfl (by decide +kernel) rfl (fun w' h => exec_load_cell rfl rfl Tryz.underlying3 rfl h.1) hS0 ?_; simp only [zq1, zq2, zq3]
 (apply reg_take 17 rfl rfl (by decide +kernel) rfl); (intro w' hw'; go_simp; rfl); exact hS0; simp only [zq1, zq2, zq3]
 (apply reg_take 18 rfl rfl (by decide +kernel) rfl); (intro w' hw'; go_simp; rfl); exact hS0; simp only [zq1, zq2, zq3]
 refine reg_call 19 rfl rfl (by decide +kernel) rfl (f := 120) (args := #[.pointer (some ⟨gs, 0, none⟩), .slice (some ⟨g, P, none⟩) c.k (cp - P)]) (R := fun v w' => ∃ gt gco, v = .tuple #[hdrV c.k gt, hdrV us.length gco] ∧ Hid (Same wb w' ∧ Sat w' (pts gs (.cells (spV nm c.m c.k pv dom (.slice uo us.length ucp) ro rs.length rcp) TSpn (0, 0)) * (pts gG (.cells (matV c.m c.n c.k g cp) TM (0, 0)) * (rowS TI gt c.k rest * (rowS TI gco us.length cf * ((ownAt TRd 3 (.slice ro rs.length rcp) rs.length (rdE c.k us.length gr gc rs) * rdB c.k us.length gr gc rs) * old wb))))))) (by kernel_rfl) (HC.out.mono fun e w' h => by
  obtain ⟨gt, gco, rfl, h1, h2⟩ := h
  exact ⟨_, rfl, gt, gco, rfl, HS5.out.1.trans h1, h2.perm (by ac_rfl)⟩) ?_
 rintro _ w6 ⟨gt, gco, rfl, hx⟩
 replace hS0 := HSC.out w6 _ hx.out.2
 refine ⟨hS0, ?_⟩
 simp only [zq1, zq2, zq3]
 (apply reg_take 20 rfl rfl (by decide +kernel) rfl); (intro w' hw'; go_simp; rfl); exact hS0; simp only [zq1, zq2, zq3]
 (apply reg_take 21 rfl rfl (by decide +kernel) rfl); (intro w' hw'; go_simp; rfl); exact hS0; simp only [zq1, zq2, zq3]
 (apply reg_take 22 rfl rfl (by decide +kernel) rfl); (intro w' hw'; go_simp; rfl); exact hS0; simp only [zq1, zq2, zq3]
 (apply reg_take 23 rfl rfl (by decide +kernel) rfl); (intro w' hw'; go_simp; rfl); exact hS0; simp only [zq1, zq2, zq3]
 (apply reg_take 24 rfl rfl (by decide +kernel) rfl); (intro w' hw'; go_simp; rfl); exact hS0; simp only [zq1, zq2, zq3]
 refine reg_done (by decide +kernel) ?_
 have HS6 := Lib.hid hx.out
 clear hx HC HS4 HS5 hS0 HSC hw1 hw2 hw3 hn hlc hsub hcp hQ hle
 have hb6 : Below wb.heap.size wb w6 := HS6.out.1.below_of (HS6.out.2.perm (show _ = (pts gs (.cells (spV nm c.m c.k pv dom (.slice uo us.length ucp) ro rs.length rcp) TSpn (0, 0)) * (pts gG (.cells (matV c.m c.n c.k g cp) TM (0, 0)) * (rowS TI gt c.k rest * (rowS TI gco us.length cf * (ownAt TRd 3 (.slice ro rs.length rcp) rs.length (rdE c.k us.length gr gc rs) * rdB c.k us.length gr gc rs))))) * old wb by ac_rfl))
 have HRT := Lib.hid (rowS_row (HS6.out.2.perm (show _ = rowS TI gt c.k rest * (pts gs (.cells (spV nm c.m c.k pv dom (.slice uo us.length ucp) ro rs.length rcp) TSpn (0, 0)) * (pts gG (.cells (matV c.m c.n c.k g cp) TM (0, 0)) * (rowS TI gco us.length cf * ((ownAt TRd 3 (.slice ro rs.length rcp) rs.length (rdE c.k us.length gr gc rs) * rdB c.k us.length gr gc rs) * old wb)))) by ac_rfl)))
 have HRC := Lib.hid (rowS_row (HS6.out.2.perm (show _ = rowS TI gco us.length cf * (pts gs (.cells (spV nm c.m c.k pv dom (.slice uo us.length ucp) ro rs.length rcp) TSpn (0, 0)) * (pts gG (.cells (matV c.m c.n c.k g cp) TM (0, 0)) * (rowS TI gt c.k rest * ((ownAt TRd 3 (.slice ro rs.length rcp) rs.length (rdE c.k us.length gr gc rs) * rdB c.k us.length gr gc rs) * old wb)))) by ac_rfl)))
 have HU6 := Lib.hid (show w6.cell? ⟨gs, 5, none⟩ = some (.slice uo us.length ucp) by rw [cells_at HS6.out.2.block]; rfl)
 have HEV := Lib.hid (everyI (hdrV c.k gt) (lineI rest c.k) 123 #[] (fun x => x == 0) w6 terms1_run HRT.out (fun y _ W' _ => by
  have h := terms1_any y W'
  exact h))
 rw [← HZ.out, ← HBZ.out] at HEV
 have HB6 := Lib.hid (HBW.out.1.trans (hb6.mono HBW.out.1.size))
 have HUV6 := Lib.hid (HUV.out.below hb6)
 clear HS6 hb6 HS HBW HTB HMB HCP HRW HZ HUV HRT
 have hus32 : us.length ≤ 32 := by omega
 clear hus hn32 hck hun
 rcases Bool.eq_false_or_eq_true b with hbt | hbt
 rotate_left
 ·rw [hbt] at HEV
  have HBT := Lib.hid hbt
  clear hbt HBZ
  go_wp2_with (go_at_call 92; refine HEV.out.mono ?_; rintro e w7 ⟨rfl, h7⟩)
  go_ret2
  exact ⟨.slice none 0 0, by rw [HBT.out]; rfl, HB6.out.trans (h7.mono HB6.out.size)⟩
 ·rw [hbt] at HEV
  have HBT := Lib.hid hbt
  clear hbt HBZ
  unfold hdrV at HEV HRC ⊢
  go_wp2_with (go_at_call 92; refine HEV.out.mono ?_; rintro e w7 ⟨rfl, h7⟩)
  have HB7 := Lib.hid (And.intro (HB6.out.trans (h7.mono HB6.out.size)) (And.intro (HRC.out.below h7) (And.intro (HUV6.out.below h7) (show w7.cell? ⟨gs, 5, none⟩ = some (.slice uo us.length ucp) from (h7.cell (p := ⟨gs, 5, none⟩) (World.block_lt_of_cell? _ _ HU6.out)).trans HU6.out))))
  clear h7 HRC HUV6 HU6 HEV HG
  go_loopw [10, 49] (fun tv iv wr => CmS w7 us.length tv iv wr) (fun _ iv _ => us.length - (intOf iv).toNat)
  case atStart => exact ⟨⟨0, 0, [], Nat.zero_le _, Nat.le_refl _, rfl, Same.refl _, ownAt_nil.2 (Sat.old w7)⟩⟩
  case round =>
   obtain ⟨i, k, xs, hi, hk, rfl, hsm, hst⟩ := hrel.st
   clear hrel
   have HS := Lib.hid (And.intro hsm hst)
   have hb := hsm.below_of hst
   have HBW := Lib.hid hb
   obtain ⟨at_, ct, rfl⟩ := ownAt_slice hst
   clear hsm hst
   by_cases hin : i < us.length
   ·have hid : decide ((i : Int) < (us.length : Int)) = true := decide_eq_true (by omega)
    have hwi : IntKind.i64.wrap ((i : Int) + 1) = (i : Int) + 1 := IntWalk.i64_in _ (by omega)
    obtain ⟨p, hp⟩ : ∃ p, us[i]? = some p := ⟨_, List.getElem?_eq_getElem (by omega)⟩
    obtain ⟨-, b, off, rfl, c1⟩ := rowI_at HB7.out.2.2.1 (show (natsI us)[i]? = some (p : Int) by unfold natsI; rw [List.getElem?_map, hp]; rfl)
    obtain ⟨-, b2, off2, e2, c2⟩ := rowI_at HB7.out.2.1 (lineI_at cf hin)
    cases e2
    rw [Nat.zero_add] at c2
    obtain ⟨q, hq⟩ : ∃ q : Int, q = ((cf i : Nat) : Int) := ⟨_, rfl⟩
    rw [← hq] at c2
    have e5 : wr.cell? ⟨gs, 5, none⟩ = some (.slice (some ⟨b, off, none⟩) us.length ucp) := (hb.cell (p := ⟨gs, 5, none⟩) (World.block_lt_of_cell? _ _ HB7.out.2.2.2)).trans HB7.out.2.2.2
    have e1 : wr.cell? ⟨b, off + i, none⟩ = some (.int .i64 (p : Int)) := (hb.cell (p := ⟨b, off + i, none⟩) (World.block_lt_of_cell? _ _ c1)).trans c1
    have e3 : wr.cell? ⟨gco.1, i, none⟩ = some (.int .i64 q) := (hb.cell (p := ⟨gco.1, i, none⟩) (World.block_lt_of_cell? _ _ c2)).trans c2
    clear c1 c2 hp hq hb
    by_cases h0 : q = 0
    ·subst h0
     go_wp2
     go_roundw
     case rel => exact ⟨⟨i + 1, k, xs, by omega, by omega, rfl, HS.out⟩⟩
     case measure => simp only [intOf]; omega
    ·have h0d : (q != 0) = true := by simpa using h0
     clear h0
     obtain ⟨ti, hti, hz0, hts, hz2⟩ := info_parts info_term
     have hA := HS.out.2.alloc (.cells #[.int .i64 (p : Int), .int .i64 q] TTe)
     have hA6 := hA.perm (show _ = ownAt TTe 2 (.slice at_ k ct) k xs * (pts wr.heap.size (.cells #[.int .i64 (p : Int), .int .i64 q] TTe (0, 0)) * old w7) by ac_rfl)
     obtain ⟨v', w8, hr, hsm7, hs7⟩ := run_append_ownAt (P := Tryz.prog) 151 151 TTe ti _ Tryz.underlying151 hti hz0 (by rw [hts]; rfl) (.slice at_ k ct) k xs (by rw [hts]; exact hA6) ⟨wr.heap.size, 0, none⟩ 1 1 [.int .i64 (p : Int), .int .i64 q] (by rw [hts]; rfl)
      (by intro j u hu; rw [Addr.add_mid, cells_at hA6.right.block, Nat.zero_add]; simpa using hu) (by simp [Value.oneCell']) (by unfold maxLen; omega) (by rw [hz2]; omega)
     rw [hts] at hs7
     have HN := Lib.hid (show Same w7 w8 ∧ Sat w8 (ownAt TTe 2 v' (k + 1) (xs ++ [.int .i64 (p : Int), .int .i64 q]) * old w7) from ⟨(HS.out.1.alloc _).trans hsm7, (hs7.perm (show _ = pts wr.heap.size (.cells #[.int .i64 (p : Int), .int .i64 q] TTe (0, 0)) * (ownAt TTe 2 v' (k + 1) (xs ++ [.int .i64 (p : Int), .int .i64 q]) * old w7) by ac_rfl)).right⟩)
     have HR := Lib.hid hr
     clear hA hA6 hsm7 hs7 hr hti hz0 hts hz2
     go_wp2_with (at_builtin; refine wpList_run rfl (exec_appG rfl rfl rfl HR.out) ?_)
     go_roundw
     case rel => exact ⟨⟨i + 1, k + 1, _, by omega, by omega, rfl, HN.out⟩⟩
     case measure => simp only [intOf]; omega
   ·have hid : decide ((i : Int) < (us.length : Int)) = false := decide_eq_false (by omega)
    clear hb
    go_wp2
    go_ret2
    exact ⟨_, by rw [HBT.out]; rfl, HB7.out.1.trans (HBW.out.mono HB7.out.1.size)⟩
set_option maxRecDepth 20000 in
set_option maxHeartbeats 1000000 in
theorem comb_any (cv : Array Value) (c : CodeM) (hv : Value) (h : List Bool) (hl : h.length = c.n) (u : Nat) (hun : u < c.n) (w : World) (hT : TabF w) (hc : CodeAt w cv c) (hr : RowI w hv (boolsV h)) :
  Calls Tryz.prog 68 #[.agg cv, hv, .int .i64 (u : Int)] w fun e w' => ∃ v, e = .returned (.tuple #[v, .int .i64 (errT (recR c h u))]) ∧ Below w.heap.size w w' := by
 have hok := hc.ok
 have hn32 := hc.n32
 have HSP := Lib.hid (fun t => spanof_any cv c hv h hl (w.alloc (.cells cv t)) (hT.below (al_below w _)) (hc.below (al_below w _)) (hr.below (al_below w _)))
 have HTM := Lib.hid (fun t W gs hO => terms_any cv c (basU c (units h)) (basU_small c hok _) (w.alloc (.cells cv t)) W gs hO (hT.below (al_below w _)) (hc.below (al_below w _)) u hun)
 rw [zerS_rec hok] at HTM
 have HAB := Lib.hid (fun t => (al_below w (.cells cv t)))
 obtain ⟨⟨nm, pv, dom, rfl, -⟩, -, -, -⟩ := hc
 obtain ⟨ah, ch, rfl, -⟩ := hr
 rw [boolsV_len] at *
 have hln : (h.length : Int) ≤ 32 := by omega
 have hu0 : decide ((u : Int) < 0) = false := decide_eq_false (by omega)
 have hul : decide (h.length ≤ u) = false := decide_eq_false (by omega)
 clear hl hun hT hok hn32
 generalize recR c h u = b at *
 unfold codeV at *
 go_enter Tryz.func68, Tryz.ntmps68
 go_wp2_with (first
  | (go_at_call 95; refine (HSP.out _).mono ?_; rintro e w1 ⟨gs, rfl, h1⟩; have H1 := Lib.hid h1; clear h1)
  | (go_at_call 96; refine (HTM.out _ w1 gs H1.out).mono ?_; rintro e w2 ⟨v, rfl, h2⟩))
 go_ret2
 exact ⟨_, rfl, (HAB.out _).trans (h2.mono (HAB.out _).size)⟩
set_option maxRecDepth 20000 in
set_option maxHeartbeats 1000000 in
theorem recov_any (cv : Array Value) (c : CodeM) (hv : Value) (h : List Bool) (hl : h.length = c.n) (u : Nat) (hun : u < c.n) (w : World) (hT : TabF w) (hc : CodeAt w cv c) (hr : RowI w hv (boolsV h)) :
  Calls Tryz.prog 43 #[.agg cv, hv, .int .i64 (u : Int)] w fun e w' => e = .returned (.bool (recR c h u)) ∧ Below w.heap.size w w' := by
 have HCO := Lib.hid (fun t => comb_any cv c hv h hl u hun (w.alloc (.cells cv t)) (hT.below (al_below w _)) (hc.below (al_below w _)) (hr.below (al_below w _)))
 have HAB := Lib.hid (fun t => (al_below w (.cells cv t)))
 obtain ⟨⟨nm, pv, dom, rfl, -⟩, -, -, -⟩ := hc
 obtain ⟨ah, ch, rfl, -⟩ := hr
 rw [boolsV_len] at *
 clear hl hun hT
 generalize recR c h u = b at *
 unfold codeV at *
 cases b with
 | true =>
  rw [show errT true = 0 from rfl] at HCO
  go_enter Tryz.func43, Tryz.ntmps43
  go_wp2_with (go_at_call 68; refine (HCO.out _).mono ?_; rintro e w1 ⟨v, rfl, h2⟩)
  go_ret
  exact ⟨rfl, (HAB.out _).trans (h2.mono (HAB.out _).size)⟩
 | false =>
  rw [show errT false = 11 from rfl] at HCO
  go_enter Tryz.func43, Tryz.ntmps43
  go_wp2_with (go_at_call 68; refine (HCO.out _).mono ?_; rintro e w1 ⟨v, rfl, h2⟩)
  go_ret
  exact ⟨rfl, (HAB.out _).trans (h2.mono (HAB.out _).size)⟩
end Go.Proofs.YteikbikopgabjaaGreatDoor
end
section
namespace Go.GF
open Go Go.RowKit
end Go.GF
namespace Go.Proofs.YteikbikopgabjaaGreatDoor
open Go.RowKit Go.GF Go.Sl
attribute [local go_sem high] b_shr
theorem RowI.drewN {w : World} {v : Value} {L : List Value} (h : RowI w v L) (n : Nat) : RowI (w.drewN n) v L := h.below (below_drewN (Below.refl _ w) n)
end Go.Proofs.YteikbikopgabjaaGreatDoor
end
section
namespace Go.GF
open Go Go.RowKit
def codeM (f k : Int) (L : List (List Int)) : CodeM := ⟨f.toNat, k.toNat, L.map fun r => r.map Int.toNat⟩
theorem codeM_n (f k : Int) (L : List (List Int)) : (codeM f k L).n = k.toNat + L.length := by unfold codeM CodeM.n; simp
theorem natsI_toNat {r : List Int} (h : ∀ x ∈ r, 0 ≤ x) : natsI (r.map Int.toNat) = r := by
 unfold natsI
 rw [List.map_map]
 conv => rhs; rw [← List.map_id r]
 refine List.map_congr_left fun x hx => ?_
 have := h x hx
 show ((x.toNat : Nat) : Int) = x
 omega
end Go.GF
namespace Go.Proofs.YteikbikopgabjaaGreatDoor
open Go.RowKit Go.GF Go.Sl
end Go.Proofs.YteikbikopgabjaaGreatDoor
end
