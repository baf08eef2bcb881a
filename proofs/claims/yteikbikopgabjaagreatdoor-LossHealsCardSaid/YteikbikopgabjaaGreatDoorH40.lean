import Derived.Test.YteikbikopgabjaaGreatDoorH39
import Derived.Scope
/- Part 40 of a proof; the last part says what is proved. -/
namespace Go.Proofs.YteikbikopgabjaaGreatDoor
open Go.RowKit Go.Sl Go.GF Go.Vol
def spV (nm : ByteArray) (m k : Nat) (pv : Value) (dom : Int) (uv : Value) (ro : Option Addr) (n rcp : Nat) : Array Value := #[.string nm, .int .i64 (m : Int), .int .i64 (k : Int), pv, .int .i64 dom, uv, .slice ro n rcp]
def spnS (gs : Nat) (nm : ByteArray) (m : Nat) (pv : Value) (dom : Int) (uv : Value) (k nb : Nat) (rs : List RdM) (gr gc : Nat → Nat × Nat) (ro : Option Addr) (rcp : Nat) : HProp :=
 pts gs (.cells (spV nm m k pv dom uv ro rs.length rcp) TSpn (0, 0)) * (ownAt TRd 3 (.slice ro rs.length rcp) rs.length (rdE k nb gr gc rs) * rdB k nb gr gc rs)
theorem rdE_snoc (k nb : Nat) (gr gc : Nat → Nat × Nat) (rs : List RdM) (r : RdM) (g1 g2 : Nat × Nat) : rdE k nb (snG gr rs.length g1) (snG gc rs.length g2) (rs ++ [r]) = rdE k nb gr gc rs ++ (rdA r.row.1 k nb g1 g2).toList := by
 unfold rdE
 rw [List.zipIdx_append, List.flatMap_append]
 congr 1
 ·rw [List.flatMap_def, List.flatMap_def]
  refine congrArg _ (List.map_congr_left fun q hq => ?_)
  have := (List.mem_zipIdx hq).2.1
  unfold snG
  rw [if_neg (by omega), if_neg (by omega)]
 ·simp [snG]
theorem rdB_snoc (k nb : Nat) (gr gc : Nat → Nat × Nat) (rs : List RdM) (r : RdM) (g1 g2 : Nat × Nat) : rdB k nb (snG gr rs.length g1) (snG gc rs.length g2) (rs ++ [r]) = (rowS TI g1 k r.row.2 * rowS TI g2 nb r.coef) * rdB k nb gr gc rs := by
 unfold rdB
 rw [List.length_append, List.length_singleton]
 show (match (rs ++ [r])[rs.length]? with | some r' => _ | none => _) * bigs rs.length _ = _
 rw [List.getElem?_append_right (Nat.le_refl _), Nat.sub_self]
 congr 1
 ·simp [snG]
 ·refine bigs_congr fun i hi => ?_
  rw [List.getElem?_append_left hi]
  unfold snG
  rw [if_neg (by omega), if_neg (by omega)]
theorem basU_small (c : CodeM) (hc : c.Ok) (us : List Nat) : (basU c us).length ≤ c.k := by
 rw [basU_len]
 exact (redI (opsC hc.fld) (matT_bnd hc us) us.length (Nat.le_refl _)).len
theorem firstNZ_at {k j : Nat} {f : Nat → Nat} (hj : j < k) (h0 : f j ≠ 0) (hz : ∀ i, i < j → f i = 0) : firstNZ k f = some j := by
 unfold firstNZ
 rw [List.find?_range_eq_some]
 exact ⟨by simpa using h0, List.mem_range.2 hj, fun i hi => by simpa using hz i hi⟩
theorem firstNZ_no {k : Nat} {f : Nat → Nat} (hz : ∀ i, i < k → f i = 0) : firstNZ k f = none := by
 unfold firstNZ
 rw [List.find?_eq_none]
 exact fun i hi => by simpa using hz i (List.mem_range.1 hi)
theorem rowsF_none {c : CodeM} {us : List Nat} {k u : Nat} (hu : us[k]? = some u) (hz : ∀ i, i < c.k → redF c (rowsF c (us.take k)) (c.gen u) i = 0) : rowsF c (us.take (k + 1)) = rowsF c (us.take k) := by
 rw [List.take_add_one, hu, Option.toList_some, rowsF_snoc]
 unfold addF newF
 rw [firstNZ_no hz]
theorem rowsF_some {c : CodeM} {us : List Nat} {k u j : Nat} {rest : Nat → Nat} (hu : us[k]? = some u) (hr : redF c (rowsF c (us.take k)) (c.gen u) = rest) (hj : j < c.k) (h0 : rest j ≠ 0) (hz : ∀ i, i < j → rest i = 0) :
  rowsF c (us.take (k + 1)) = rowsF c (us.take k) ++ [(j, fun i => mulC c.m (invC c.m (rest j)) (rest i))] := by
 rw [List.take_add_one, hu, Option.toList_some, rowsF_snoc]
 unfold addF newF
 rw [hr, firstNZ_at hj h0 hz]
structure SpnO (c : CodeM) (cv : Array Value) (us : List Nat) (w : World) (gs : Nat) (w' : World) : Prop where
 at_ : ∃ nm pv dom uv rs gr gc ro rcp wb, cv = codeV nm (c.m : Int) (c.k : Int) pv dom ∧ Below w.heap.size w wb ∧ RowI wb uv (intsV (natsI us)) ∧ RdsOk c us.length rs ∧ rs.map RdM.row = rowsF c us ∧ rs.length ≤ us.length ∧ Same wb w' ∧
  Sat w' (spnS gs nm c.m pv dom uv c.k us.length rs gr gc ro rcp * old wb)
def spA (k nb : Nat) (i : Nat) (v : Value) : HProp :=
 if i = 3 then Sl.ex fun g : Nat × Nat => Sl.lift (v = hdrV k g) * rowS TI g k (fun _ => 0)
 else if i = 6 then Sl.ex fun g : Nat × Nat => Sl.lift (v = hdrV nb g) * rowS TI g nb (fun _ => 0)
 else Sl.ex fun g : Nat => Sl.lift (v = .pointer (some ⟨g, 0, none⟩)) * pts g (.cells zRd TRd (0, 0))
theorem spA3 {w : World} {F : HProp} {k nb : Nat} {v : Value} : Sat w (spA k nb 3 v * F) ↔ ∃ g, v = hdrV k g ∧ Sat w (rowS TI g k (fun _ => 0) * F) := by
 unfold spA
 rw [if_pos rfl, Sat.ex]
 exact exists_congr fun g => by rw [star_assoc, Sat.lift]
theorem spA6 {w : World} {F : HProp} {k nb : Nat} {v : Value} : Sat w (spA k nb 6 v * F) ↔ ∃ g, v = hdrV nb g ∧ Sat w (rowS TI g nb (fun _ => 0) * F) := by
 unfold spA
 rw [if_neg (by decide), if_pos rfl, Sat.ex]
 exact exists_congr fun g => by rw [star_assoc, Sat.lift]
theorem spAp {w : World} {F : HProp} {k nb i : Nat} (h1 : i ≠ 3) (h7 : i ≠ 6) {v : Value} : Sat w (spA k nb i v * F) ↔ ∃ g, v = .pointer (some ⟨g, 0, none⟩) ∧ Sat w (pts g (.cells zRd TRd (0, 0)) * F) := by
 unfold spA
 rw [if_neg h1, if_neg h7, Sat.ex]
 exact exists_congr fun g => by rw [star_assoc, Sat.lift]
theorem info_rd : (Tryz.prog.info? TRd).map (fun i => (i.zero, i.size, i.bytes)) = some (some (.agg zRd), 3, 56) := by kernel_rfl
structure SpL (c : CodeM) (nm : ByteArray) (pv : Value) (dom : Int) (uv : Value) (us : List Nat) (gs : Nat) (wb : World) (i : Value) (wr : World) : Prop where
 st : ∃ k rs gr gc ro rcp, k ≤ us.length ∧ i = .int .i64 ((k : Nat) : Int) ∧ rs.length ≤ k ∧ RdsOk c us.length rs ∧ rs.map RdM.row = rowsF c (us.take k) ∧ Same wb wr ∧ Sat wr (spnS gs nm c.m pv dom uv c.k us.length rs gr gc ro rcp * old wb)
structure SpI (C : Nat) (rest : Nat → Nat) (wb : World) (X : HProp) (i : Value) (wr : World) : Prop where
 st : ∃ j : Nat, j ≤ C ∧ i = .int .i64 (j : Int) ∧ (∀ i, i < j → rest i = 0) ∧ Same wb wr ∧ Sat wr X
theorem infoM2 {c : Array Value} (h : c.size = 4) : (Tryz.prog.info? TM).map (·.size) = some c.size := by rw [h]; kernel_rfl
set_option maxRecDepth 20000 in
set_option maxHeartbeats 4000000 in
theorem spanof_any (cv : Array Value) (c : CodeM) (hv : Value) (h : List Bool) (hl : h.length = c.n) (w : World) (hT : TabF w) (hc : CodeAt w cv c) (hr : RowI w hv (boolsV h)) :
  Calls Tryz.prog 95 #[.agg cv, hv] w fun e w' => ∃ gs, e = .returned (.tuple #[.pointer (some ⟨gs, 0, none⟩), .int .i64 0]) ∧ SpnO c cv (basU c (units h)) w gs w' := by
 have HB := Lib.hid (fun W (hb : Below w.heap.size w W) => basis_any cv c hv h hl W (hT.below hb) (hc.below hb) (hr.below hb))
 have HG := Lib.hid (fun W (hb : Below w.heap.size w W) => gen_any cv c W (hT.below hb) (hc.below hb))
 have HT := Lib.hid hT
 have HCB := Lib.hid (fun t w1 h => code_box w w1 cv t h)
 have hok := hc.ok
 have hn32 := hc.n32
 obtain ⟨⟨nm, pv, dom, rfl, hp⟩, -, -, -⟩ := hc
 have HUS := Lib.hid (basU_small c hok (units h))
 have HUN := Lib.hid (show ∀ u ∈ basU c (units h), u < c.n from fun u hu => by
  have := units_lt (basis_sub c hok (units h) hu)
  rwa [hl] at this)
 generalize basU c (units h) = us at HB HUS HUN ⊢
 have HOK := Lib.hid (And.intro hok hn32)
 clear hp hl hT hr hok hn32
 unfold codeV at HB HG HCB
 show Calls Tryz.prog 95 #[.agg #[.string nm, .int .i64 (c.m : Int), .int .i64 (c.k : Int), pv, .int .i64 dom], hv] w _
 go_enter Tryz.func95, Tryz.ntmps95
 go_wp2
 refine wp_scope_straight ?_
 go_upto_region 5 with (first
  | (go_at_call 118; refine (HB.out _ (al_below w _)).mono ?_; rintro e w1 ⟨v, rfl, h1, h2⟩; have HR1 := Lib.hid h1; obtain ⟨ao, ucp, rfl, -, -, -⟩ := h1; rw [intsV_len, natsI_len] at HR1 ⊢; have HB1 := Lib.hid (HCB.out _ w1 h2); clear h2; obtain ⟨c0, c1, c2, c3, c4⟩ := Box.code (nm := nm) (dom := dom) HB1.out.1)
  | (go_at_call 119; refine (HG.out w1 HB1.out.2).mono ?_; rintro e w2 ⟨g, cp, rfl, h1, h2, h3, h4, h5⟩; have HM := Lib.hid (And.intro h1 (And.intro h2 (And.intro h4 h5))); have HA := Lib.hid ((Sat.old w2).alloc (.cells zmatV TM)); clear h1 h2 h3 h4 h5 c0 c1 c2 c3 c4)
  | ((with_reducible (refine wpList_alloc_zero ?_ TM ?_ _ (zeroMat _) ?_)); rfl; rfl)
  | (refine wpList_store_blk (T := TM) (old := zmatV) (new := matV c.m c.n c.k g cp) rfl rfl rfl rfl HA.out (infoM2 rfl) rfl (by simp [matV, Value.oneCell']) ?_; intro w4 h4))
 have hb24 : Below w2.heap.size w2 w4 := (((Same.refl w2).alloc (.cells zmatV TM)).trans h4.out.1).below_of h4.out.2
 have hb14 : Below w1.heap.size w1 w4 := HM.out.2.2.2.trans (hb24.mono HM.out.2.2.2.size)
 have HB4 := Lib.hid (And.intro (HB1.out.2.trans (hb14.mono HB1.out.2.size)) (And.intro (HB1.out.1.below hb14) (And.intro (HR1.out.below hb14) (And.intro (HM.out.2.2.1.below hb24) (show Box w4 w2.heap.size (matV c.m c.n c.k g cp) from ⟨_, h4.out.2.block⟩)))))
 clear hb14
 have HBL := Lib.hid HB4.out.1
 have HTB := Lib.hid (HT.out.below HB4.out.1)
 clear h4 hb24 HA HR1 HB1
 generalize w2.heap.size = gG at HB4 ⊢
 generalize w.heap.size = gA at HB4 ⊢
 obtain ⟨c0, c1, c2, c3, c4⟩ := Box.code (nm := nm) (dom := dom) HB4.out.2.1
 go_upto_region 6 with (fail)
 obtain ⟨wb, hwb⟩ : ∃ wb : World, wb = w4 := ⟨_, rfl⟩
 have H0 := Lib.hid (show SpL c nm pv dom (.slice ao us.length ucp) us w4.heap.size w4 (.int .i64 0) (w4.alloc (.cells #[.string nm, .int .i64 (c.m : Int), .int .i64 (c.k : Int), pv, .int .i64 dom, .slice ao us.length ucp, .slice none 0 0] TSpn)) from by
  refine ⟨0, [], fun _ => (0, 0), fun _ => (0, 0), none, 0, Nat.zero_le _, rfl, Nat.le_refl _, fun r hr => by simp at hr, rfl, (Same.refl w4).alloc _, ?_⟩
  have h1 : Sat w4 (ownAt TRd 3 (.slice none 0 0) 0 [] * old w4) := ownAt_nil.2 (Sat.old w4)
  have h2 := h1.alloc (.cells #[.string nm, .int .i64 (c.m : Int), .int .i64 (c.k : Int), pv, .int .i64 dom, .slice ao us.length ucp, .slice none 0 0] TSpn)
  refine h2.perm ?_
  unfold spnS
  show _ = pts w4.heap.size _ * (ownAt TRd 3 (.slice none 0 0) 0 [] * emp) * old w4
  rw [star_emp]
  ac_rfl)
 generalize w4.alloc (.cells #[.string nm, .int .i64 (c.m : Int), .int .i64 (c.k : Int), pv, .int .i64 dom, .slice ao us.length ucp, .slice none 0 0] TSpn) = w5 at H0 ⊢
 generalize w4.heap.size = gs at H0 ⊢
 have HCP := Lib.hid (And.intro HM.out.1 HM.out.2.1)
 clear c0 c1 c2 c3 c4 HM hwb
 go_wp2
 refine wp_label ?_
 go_wp2
 go_loopw [40] (fun i wr => SpL c nm pv dom (.slice ao us.length ucp) us gs w4 i wr) (fun i _ => us.length - (intOf i).toNat)
 case atStart => exact H0.out
 case round =>
  clear H0
  obtain ⟨k, rs, gr, gc, ro, rcp, hk, rfl, hrl, hro, hrow, hsm, hst⟩ := hrel.st
  clear hrel
  have hk32 := HUS.out
  have hn32 := HOK.out.2
  have hck : c.k ≤ 32 := by unfold CodeM.n at hn32; omega
  have hk64 : (k : Int) ≤ 32 := by omega
  have HBR := Lib.hid (hsm.below_of hst)
  have HS := Lib.hid (And.intro hsm (And.intro hst (And.intro hrl (And.intro hro hrow))))
  by_cases hlt : k < us.length
  ·have hltd : decide ((k : Int) < (us.length : Int)) = true := decide_eq_true (by omega)
   obtain ⟨u, hu⟩ : ∃ u, us[k]? = some u := ⟨_, List.getElem?_eq_getElem hlt⟩
   have hun : u < c.n := HUN.out u (List.mem_of_getElem? hu)
   obtain ⟨-, b0, off, rfl, cu⟩ := rowI_at (i := k) (x := (u : Int)) (HB4.out.2.2.1.below HBR.out) (by unfold natsI; rw [List.getElem?_map, hu]; rfl)
   obtain ⟨e0, e1, e2, e3⟩ := Box.mat (HB4.out.2.2.2.2.below HBR.out)
   obtain ⟨c0, c1, c2, c3, -⟩ := Box.code (nm := nm) (dom := dom) (HB4.out.2.1.below HBR.out)
   have HU := Lib.hid hu
   have h3 : (u + 1) * c.k ≤ c.n * c.k := Nat.mul_le_mul_right c.k hun
   have h2 : (u + 1) * c.k = u * c.k + c.k := by rw [Nat.add_mul]; omega
   have h4 : c.n * c.k ≤ 32 * 32 := Nat.mul_le_mul hn32 hck
   have hw1 : IntKind.i64.wrap ((u : Int) * (c.k : Int)) = ((u * c.k : Nat) : Int) := by
    rw [show (u : Int) * (c.k : Int) = ((u * c.k : Nat) : Int) by simp]; exact wrap_nat (by omega)
   have hw2 : IntKind.i64.wrap ((u : Int) + 1) = ((u + 1 : Nat) : Int) := by
    rw [show (u : Int) + 1 = ((u + 1 : Nat) : Int) by simp]; exact wrap_nat (by omega)
   have hw3 : IntKind.i64.wrap (((u + 1 : Nat) : Int) * (c.k : Int)) = ((u * c.k + c.k : Nat) : Int) := by
    rw [← h2, show ((u + 1 : Nat) : Int) * (c.k : Int) = (((u + 1) * c.k : Nat) : Int) by simp]; exact wrap_nat (by omega)
   have hcp := HCP.out
   have hv : RowI wr (.slice (some ⟨g, u * c.k, none⟩) c.k (cp - u * c.k)) (intsV (lineI (c.gen u) c.k)) := by
    refine ⟨_, _, by rw [intsV_len, lineI_len], by rw [intsV_len, lineI_len]; omega, by omega, fun _ => ⟨g, u * c.k, rfl, (HB4.out.2.2.2.1.below HBR.out).lt, fun j x hx => ?_⟩⟩
    have hj : j < c.k := by have := (List.getElem?_eq_some_iff.1 hx).1; rw [intsV_len, lineI_len] at this; exact this
    rw [intsV_at (lineI_at _ hj)] at hx
    cases hx
    exact (HB4.out.2.2.2.1.below HBR.out).cell hun hj
   have HC := Lib.hid (spred_any c HOK.out.1 us.length (by omega) (by omega) rs (by omega) hro (c.gen u) (fun i _ => gen_lt HOK.out.1 u i) gs gr gc (spV nm c.m c.k pv dom (.slice (some ⟨b0, off, none⟩) us.length ucp) ro rs.length rcp) _ ucp ro rcp rfl rfl rfl _ (old w4) w4 wr HTB.out hsm (Keeps.old w4) hv (hst.perm (by unfold spnS; ac_rfl)))
   have hn : cp ≠ u * c.k := by have := HOK.out.1.pos; omega
   have hlc : u * c.k + c.k ≤ cp := by omega
   have hsub : u * c.k + c.k - u * c.k = c.k := by omega
   clear hv hst hsm hrow hro
   generalize c.n * c.k = N at *
   generalize hI : u * c.k = P at *
   generalize hJ : u + 1 = i1 at *
   generalize hQ : P + c.k = Q at *
   have hle : P ≤ Q := by omega
   clear h2 h3 h4 hI hJ
   go_upto_region 10 with (go_at_call 120; refine HC.out.mono ?_; rintro e w6 ⟨gt, gco, rfl, h1, h2⟩)
   have HS6 := Lib.hid (And.intro (HS.out.1.trans h1) h2)
   have HRW := Lib.hid ((redAll_row c rs (c.gen u, fun _ => 0)).trans (congrArg (fun l => redF c l (c.gen u)) HS.out.2.2.2.2))
   have HBD := Lib.hid (redAll_bnd HOK.out.1 (rs := rs) (s := (c.gen u, fun _ => 0)) (nb := us.length) HS.out.2.2.2.1 (fun i _ => gen_lt HOK.out.1 u i) (fun i _ => Nat.two_pow_pos _))
   generalize (redAll c rs (c.gen u, fun _ => 0)).1 = rest at HS6 HRW HBD
   generalize (redAll c rs (c.gen u, fun _ => 0)).2 = cf at HS6 HBD
   clear h1 h2 HC c0 c1 c2 c3 e0 e1 e2 e3 cu
   obtain ⟨G, hG⟩ : ∃ G, G = pts gs (.cells (spV nm c.m c.k pv dom (.slice (some ⟨b0, off, none⟩) us.length ucp) ro rs.length rcp) TSpn (0, 0)) * (ownAt TRd 3 (.slice ro rs.length rcp) rs.length (rdE c.k us.length gr gc rs) * (rdB c.k us.length gr gc rs * old w4)) := ⟨_, rfl⟩
   have HG := Lib.hid hG
   rw [← hG] at HS6
   clear hG
   have hcb := HBD.out.2 k hlt
   have ho := opsC HOK.out.1.fld
   have h16 : 2 ^ c.m ≤ 65536 := by rcases HOK.out.1.fld with h | h <;> rw [h] <;> decide
   obtain ⟨cc, cfz, h9⟩ := rowS_set (HS6.out.2.perm (show _ = rowS TI gco us.length cf * (rowS TI gt c.k rest * G) by ac_rfl)) hlt (xorN (cf k) 1)
   obtain ⟨ck, hckk⟩ : ∃ x, x = cf k := ⟨_, rfl⟩
   rw [← hckk] at cc h9 hcb
   have HCK := Lib.hid hckk
   have hxr : bits .xor .i64 (ck : Int) 1 = ((xorN ck 1 : Nat) : Int) := i64_xor_nat' ck 1 (by omega) (by omega)
   have HS9 := Lib.hid (And.intro (HS6.out.1.setCell ⟨gco.1, k, none⟩ (.int .i64 ((xorN ck 1 : Nat) : Int))) h9)
   obtain ⟨cf2, hcf2⟩ : ∃ cf2, cf2 = fun i => if i = k then xorN ck 1 else cf i := ⟨_, rfl⟩
   rw [← hcf2] at HS9
   have HB2 := Lib.hid (show ∀ i, i < us.length → cf2 i < 2 ^ c.m from fun i hi => by
    rw [hcf2]; dsimp only
    split
    ·exact ho.xor_lt hcb ho.one_lt
    ·exact HBD.out.2 i hi)
   clear h9 hckk hcf2 ho HCK
   unfold hdrV
   go_upto_region 11 with (fail)
   generalize w6.setCell ⟨gco.1, k, none⟩ (.int .i64 ((xorN ck 1 : Nat) : Int)) = w7 at HS9 ⊢
   clear cc cfz hxr hcb HS6
   go_wp2
   have H0 := Lib.hid (show SpI c.k rest w4 (rowS TI gco us.length cf2 * (rowS TI gt c.k rest * G)) (.int .i64 0) w7 from ⟨0, Nat.zero_le _, rfl, fun i hi => absurd hi (Nat.not_lt_zero i), HS9.out⟩)
   clear HS9
   have hwk : IntKind.i64.wrap ((k : Int) + 1) = (k : Int) + 1 := IntWalk.i64_in _ (by omega)
   go_loopw [70] (fun i wr => SpI c.k rest w4 (rowS TI gco us.length cf2 * (rowS TI gt c.k rest * G)) i wr) (fun i _ => c.k - (intOf i).toNat)
   case atStart => exact H0.out
   case round =>
    clear H0
    obtain ⟨j, hj, rfl, hz, hsm, hst⟩ := hrel.st
    clear hrel
    have hj64 : (j : Int) ≤ 32 := by omega
    have HJ := Lib.hid (And.intro hsm hst)
    have HZ := Lib.hid hz
    clear hsm hst hz
    by_cases hjl : j < c.k
    ·have hjd : decide ((j : Int) < (c.k : Int)) = true := decide_eq_true (by omega)
     have hwj : IntKind.i64.wrap ((j : Int) + 1) = (j : Int) + 1 := IntWalk.i64_in _ (by omega)
     have cr : wr.cell? ⟨gt.1, j, none⟩ = some (.int .i64 ((rest j : Nat) : Int)) := rowS_at (HJ.out.2.perm (show _ = rowS TI gt c.k rest * (rowS TI gco us.length cf2 * G) by ac_rfl)) hjl
     obtain ⟨x, hx⟩ : ∃ x, x = rest j := ⟨_, rfl⟩
     rw [← hx] at cr
     by_cases h0 : x = 0
     ·subst h0
      have HX := Lib.hid hx
      clear hx
      have hq : (((0 : Nat) : Int) == 0) = true := rfl
      go_wp2
      go_roundw
      case rel =>
       exact ⟨⟨j + 1, hjl, by push_cast; rfl, fun i hi => by
        rcases Nat.lt_or_ge i j with h | h
        ·exact HZ.out i h
        ·rw [show i = j by omega]; exact HX.out.symm, HJ.out⟩⟩
      case measure => simp only [intOf]; omega
     ·have hq : ((x : Int) == 0) = false := by simpa using h0
      have HX := Lib.hid (And.intro hx h0)
      have hxm : x < 2 ^ c.m := by rw [hx]; exact HBD.out.1 j hjl
      have HBJ := Lib.hid (HJ.out.1.below_of (HJ.out.2.perm (show _ = (rowS TI gco us.length cf2 * (rowS TI gt c.k rest * (pts gs (.cells (spV nm c.m c.k pv dom (.slice (some ⟨b0, off, none⟩) us.length ucp) ro rs.length rcp) TSpn (0, 0)) * (ownAt TRd 3 (.slice ro rs.length rcp) rs.length (rdE c.k us.length gr gc rs) * rdB c.k us.length gr gc rs)))) * old w4 by rw [HG.out]; ac_rfl)))
      obtain ⟨c0, c1, c2, c3, -⟩ := Box.code (nm := nm) (dom := dom) (HB4.out.2.1.below HBJ.out)
      have HC := Lib.hid (finv_any c.m HOK.out.1.fld x hxm h0 wr (HTB.out.below HBJ.out))
      have HF := Lib.hid (show invC c.m x < 2 ^ c.m from ((opsC HOK.out.1.fld).invs _ hxm h0).1)
      obtain ⟨f, hf⟩ : ∃ f, f = invC c.m x := ⟨_, rfl⟩
      rw [← hf] at HC HF
      have HFE := Lib.hid hf
      clear hx h0 hxm hf
      go_upto_region 16 with (go_at_call 121; refine HC.out.mono ?_; rintro e w8 ⟨rfl, h8⟩)
      have HJ8 := Lib.hid (And.intro (HJ.out.1.below h8) (HJ.out.2.below h8))
      clear h8
      have HMK := Lib.hid (fun W => And.intro (run_mkI c.k (by omega) W) (run_mkI us.length (by omega) W))
      have hnk : c.k ≤ 1000 ∧ us.length ≤ 1000 := by omega
      have HJD := Lib.hid (And.intro HJ8.out.1.drew HJ8.out.2.drew)
      clear HJ8 HJ cr c0 c1 c2 c3 HC
      refine reg_begin (fun W => Below w8.drew.heap.size w8.drew W) (by kernel_rfl) ?_
      generalize w8.drew = w9 at HJD ⊢
      have hS0 : Below w9.heap.size w9 w9 := Below.refl _ _
      (apply reg_take 0 rfl rfl (by decide +kernel) rfl); (intro w' hw'; go_simp; rfl); exact hS0; simp only [zq1, zq2, zq3]
      (apply reg_take 1 rfl rfl (by decide +kernel) rfl); (intro w' hw'; go_simp; rfl); exact hS0; simp only [zq1, zq2, zq3]
      (apply reg_take 2 rfl rfl (by decide +kernel) rfl); (intro w' hw'; go_simp; rfl); exact hS0; simp only [zq1, zq2, zq3]
      (apply reg_take 4 rfl rfl (by decide +kernel) rfl); (intro w' hw'; go_simp; rfl); exact hS0; simp only [zq1, zq2, zq3]
      (apply reg_take 5 rfl rfl (by decide +kernel) rfl); (intro w' hw'; go_simp; rfl); exact hS0; simp only [zq1, zq2, zq3]
      apply reg_cutT3 (K := fun (g19 : Nat) (ga gb : Nat × Nat) W => Same w9 W ∧ Sat W (pts g19 (.cells (rdA j c.k us.length ga gb) TRd (0, 0)) * (rowS TI ga c.k (fun _ => 0) * (rowS TI gb us.length (fun _ => 0) * old w9))))
      case h =>
       refine reg_makersR (fuel := 2) [(3, 87), (6, 90), (8, 19)] [3, 6] (spA c.k us.length) (old w9) (by decide +kernel) (by decide) ?_ (fun W X h1 h2 => h1.below_of h2) (Sat.old _) ?_ ?_
       ·intro p hp
        simp only [List.mem_cons, List.not_mem_nil, or_false] at hp
        rcases hp with rfl | rfl | rfl
        ·exact ⟨_, rfl, rfl⟩
        ·exact ⟨_, rfl, rfl⟩
        ·exact ⟨_, rfl, rfl⟩
       ·intro p hp o ho σ W X h1 h2
        simp only [List.mem_cons, List.not_mem_nil, or_false] at hp
        rcases hp with rfl | rfl | rfl
        ·cases ho
         unfold Oper.wp
         rw [exec_makeJ rfl (mk_eval (M := [(3, 87), (6, 90), (8, 19)]) (x := 86) (v := .int .i64 (c.k : Int)) (by decide) rfl) (mk_eval (M := [(3, 87), (6, 90), (8, 19)]) (x := 86) (v := .int .i64 (c.k : Int)) (by decide) rfl) (HMK.out W).1]
         exact ⟨_, rfl, (Same.refl W).alloc _, spA3.2 ⟨(W.heap.size, c.k), rfl, zero_row c.k _ W hnk.1 h2⟩⟩
        ·cases ho
         unfold Oper.wp
         rw [exec_makeJ rfl (mk_eval (M := [(3, 87), (6, 90), (8, 19)]) (x := 89) (v := .int .i64 (us.length : Int)) (by decide) rfl) (mk_eval (M := [(3, 87), (6, 90), (8, 19)]) (x := 89) (v := .int .i64 (us.length : Int)) (by decide) rfl) (HMK.out W).2]
         exact ⟨_, rfl, (Same.refl W).alloc _, spA6.2 ⟨(W.heap.size, us.length), rfl, zero_row us.length _ W hnk.2 h2⟩⟩
        ·cases ho
         unfold Oper.wp
         rw [exec_alloc_zero rfl _ (zeroRd W)]
         exact ⟨_, rfl, (Same.refl W).alloc _, (spAp (by decide) (by decide)).2 ⟨W.heap.size, rfl, h2.alloc _⟩⟩
       ·intro σ W hreq h1 h2
        obtain ⟨v3, e3⟩ := Option.isSome_iff_exists.1 (hreq 3 (by decide))
        obtain ⟨v6, e6⟩ := Option.isSome_iff_exists.1 (hreq 6 (by decide))
        cases e8 : σ 8 with
        | some v8 =>
         simp only [mkH, mkT, doneL, List.map_cons, List.map_nil, List.filter_cons, List.filter_nil, e3, e6, e8, Option.isSome_some, if_true, Bool.not_true, Bool.false_eq_true, if_false, List.length_nil, zq1, zq2, zq3] at h2 ⊢
         have h3 := h2.perm (show _ = spA c.k us.length 3 v3 * (spA c.k us.length 6 v6 * (spA c.k us.length 8 v8 * old w9)) by rw [star_emp]; ac_rfl)
         obtain ⟨ga, rfl, h4⟩ := spA3.1 h3
         obtain ⟨gb, rfl, h5⟩ := spA6.1 (h4.perm (show _ = spA c.k us.length 6 v6 * (rowS TI ga c.k (fun _ => 0) * (spA c.k us.length 8 v8 * old w9)) by ac_rfl))
         obtain ⟨g19, rfl, h6⟩ := (spAp (by decide) (by decide)).1 (h5.perm (show _ = spA c.k us.length 8 v8 * (rowS TI ga c.k (fun _ => 0) * (rowS TI gb us.length (fun _ => 0) * old w9)) by ac_rfl))
         have hbW : Below w9.heap.size w9 W := h1.below_of h2
         (apply reg_take 7 rfl rfl (by decide +kernel) rfl); (intro w' hw'; go_simp; rfl); exact hbW; simp only [zq1, zq2, zq3]
         refine reg_store_blk 9 (T := TRd) (old := zRd) (new := rdA j c.k us.length ga gb) rfl rfl (by decide +kernel) rfl rfl rfl rfl h6 (infoRd rfl) rfl (by simp [rdA, hdrV, Value.oneCell']) ?_
         intro W2 h7
         have h8 := h7.out.2.perm (show _ = pts g19 (.cells (rdA j c.k us.length ga gb) TRd (0, 0)) * (rowS TI ga c.k (fun _ => 0) * (rowS TI gb us.length (fun _ => 0) * old w9)) by ac_rfl)
         refine ⟨(h1.trans h7.out.1).below_of (h8.perm (show _ = (pts g19 (.cells (rdA j c.k us.length ga gb) TRd (0, 0)) * (rowS TI ga c.k (fun _ => 0) * rowS TI gb us.length (fun _ => 0))) * old w9 by ac_rfl)), ?_⟩
         refine reg_done (by decide +kernel) ?_
         exact ⟨g19, ga, gb, rfl, h1.trans h7.out.1, h8⟩
        | none =>
         simp only [mkH, mkT, doneL, List.map_cons, List.map_nil, List.filter_cons, List.filter_nil, e3, e6, e8, Option.isSome_some, Option.isSome_none, if_true, Bool.not_true, Bool.not_false, Bool.false_eq_true, if_false, List.length_cons, List.length_nil, zq1, zq2, zq3] at h2 ⊢
         have h3 := h2.perm (show _ = spA c.k us.length 3 v3 * (spA c.k us.length 6 v6 * old w9) by simp only [star_emp]; ac_rfl)
         obtain ⟨ga, rfl, h4⟩ := spA3.1 h3
         obtain ⟨gb, rfl, h5⟩ := spA6.1 (h4.perm (show _ = spA c.k us.length 6 v6 * (rowS TI ga c.k (fun _ => 0) * old w9) by ac_rfl))
         have hbW : Below w9.heap.size w9 W := h1.below_of h2
         (apply reg_take 7 rfl rfl (by decide +kernel) rfl); (intro w' hw'; go_simp; rfl); exact hbW; simp only [zq1, zq2, zq3]
         have h6 := h5.alloc (.cells zRd TRd)
         have hb3 := hbW.alloc h1.size (.cells zRd TRd)
         refine reg_run 8 (.pointer (some ⟨W.heap.size, 0, none⟩)) (W.alloc (.cells zRd TRd)) rfl rfl (by decide +kernel) rfl (exec_alloc_zero rfl _ (zeroRd W)) hb3 ?_
         simp only [zq1, zq2, zq3]
         replace h1 := h1.alloc (.cells zRd TRd)
         generalize W.alloc (.cells zRd TRd) = W1 at h6 h1 ⊢
         generalize W.heap.size = g19 at h6 ⊢
         refine reg_store_blk 9 (T := TRd) (old := zRd) (new := rdA j c.k us.length ga gb) rfl rfl (by decide +kernel) rfl rfl rfl rfl h6 (infoRd rfl) rfl (by simp [rdA, hdrV, Value.oneCell']) ?_
         intro W2 h7
         have h8 := h7.out.2.perm (show _ = pts g19 (.cells (rdA j c.k us.length ga gb) TRd (0, 0)) * (rowS TI ga c.k (fun _ => 0) * (rowS TI gb us.length (fun _ => 0) * old w9)) by ac_rfl)
         refine ⟨(h1.trans h7.out.1).below_of (h8.perm (show _ = (pts g19 (.cells (rdA j c.k us.length ga gb) TRd (0, 0)) * (rowS TI ga c.k (fun _ => 0) * rowS TI gb us.length (fun _ => 0))) * old w9 by ac_rfl)), ?_⟩
         refine reg_done (by decide +kernel) ?_
         exact ⟨g19, ga, gb, rfl, h1.trans h7.out.1, h8⟩
      case k =>
       rintro g19 ga gb w10 ⟨h1, h2⟩
       dsimp only
       rename_i Kc hKc
       refine hKc _ _ ?_
       obtain ⟨PS, hPS⟩ : ∃ PS, PS = pts gs (.cells (spV nm c.m c.k pv dom (.slice (some ⟨b0, off, none⟩) us.length ucp) ro rs.length rcp) TSpn (0, 0)) := ⟨_, rfl⟩
       obtain ⟨OW, hOW⟩ : ∃ OW, OW = ownAt TRd 3 (.slice ro rs.length rcp) rs.length (rdE c.k us.length gr gc rs) := ⟨_, rfl⟩
       obtain ⟨BR, hBR⟩ : ∃ BR, BR = rdB c.k us.length gr gc rs := ⟨_, rfl⟩
       have hg := HG.out
       rw [← hPS, ← hOW, ← hBR] at hg
       have HE := Lib.hid (And.intro hPS (And.intro hOW hBR))
       obtain ⟨P19, hP19⟩ : ∃ P19, P19 = pts g19 (.cells (rdA j c.k us.length ga gb) TRd (0, 0)) := ⟨_, rfl⟩
       have hs10 : Sat w10 (PS * (rowS TI ga c.k (fun _ => 0) * (rowS TI gt c.k rest * ((P19 * (rowS TI gb us.length (fun _ => 0) * (rowS TI gco us.length cf2 * (OW * BR)))) * old w4)))) :=
        ((h2.perm (show _ = (P19 * (rowS TI ga c.k (fun _ => 0) * rowS TI gb us.length (fun _ => 0))) * old w9 by rw [hP19]; ac_rfl)).of_all HJD.out.2).perm (by rw [hg]; ac_rfl)
       have HS10 := Lib.hid (And.intro (HJD.out.1.trans h1) hs10)
       have HP19 := Lib.hid (show ∀ W X, Sat W (P19 * X) → W.cell? ⟨g19, 0, none⟩ = some (.int .i64 (j : Int)) ∧ W.cell? ⟨g19, 1, none⟩ = some (hdrV c.k ga) ∧ W.cell? ⟨g19, 2, none⟩ = some (hdrV us.length gb) from fun W X h => by
        rw [hP19] at h
        exact ⟨by rw [cells_at h.block]; rfl, by rw [cells_at h.block]; rfl, by rw [cells_at h.block]; rfl⟩)
       have HPD := Lib.hid hP19
       have HA1 := Lib.hid (spadd_any c.m HOK.out.1.fld f c.k HF.out (fun _ => 0) rest hnk.1 (fun _ _ => Nat.two_pow_pos _) HBD.out.1 gs _ rfl ga gt ((P19 * (rowS TI gb us.length (fun _ => 0) * (rowS TI gco us.length cf2 * (OW * BR)))) * old w4) w4 w10 HTB.out HS10.out.1 ((Keeps.old w4).star _) (by rw [← hPS]; exact hs10))
       have HA2 := Lib.hid (fun W (h1 : Same w4 W) X h2 => spadd_any c.m HOK.out.1.fld f us.length HF.out (fun _ => 0) cf2 hnk.2 (fun _ _ => Nat.two_pow_pos _) HB2.out gs (spV nm c.m c.k pv dom (.slice (some ⟨b0, off, none⟩) us.length ucp) ro rs.length rcp) rfl gb gco (X * old w4) w4 W HTB.out h1 ((Keeps.old w4).star _) h2)
       rw [← hPS] at HA1 HA2
       clear hPS hOW hBR hg hs10 hP19 h1 h2 hKc HMK HJD hS0
       obtain ⟨q0, q1, q2⟩ := HP19.out w10 _ (HS10.out.2.perm (show _ = P19 * (PS * (rowS TI ga c.k (fun _ => 0) * (rowS TI gt c.k rest * (rowS TI gb us.length (fun _ => 0) * (rowS TI gco us.length cf2 * (OW * (BR * old w4))))))) by ac_rfl))
       unfold hdrV at q1 q2 ⊢
       go_upto_region 18 with (go_at_call 122; refine HA1.out.mono ?_; rintro e w11 ⟨rfl, h1, h2⟩)
       have HS11 := Lib.hid (And.intro (HS10.out.1.trans h1) (h2.perm (show _ = PS * (rowS TI gb us.length (fun _ => 0) * (rowS TI gco us.length cf2 * ((P19 * (rowS TI ga c.k (fun i => 0 ^^^ mulC c.m f (rest i)) * (rowS TI gt c.k rest * (OW * BR)))) * old w4))) by ac_rfl)))
       clear h1 h2 q0 q1 q2
       obtain ⟨q0, q1, q2⟩ := HP19.out w11 _ (HS11.out.2.perm (show _ = P19 * (PS * (rowS TI gb us.length (fun _ => 0) * (rowS TI gco us.length cf2 * (rowS TI ga c.k (fun i => 0 ^^^ mulC c.m f (rest i)) * (rowS TI gt c.k rest * (OW * (BR * old w4))))))) by ac_rfl))
       unfold hdrV at q1 q2
       go_upto_region 19 with (go_at_call 122; refine (HA2.out w11 HS11.out.1 _ HS11.out.2).mono ?_; rintro e w12 ⟨rfl, h1, h2⟩)
       have HS12 := Lib.hid (And.intro (HS11.out.1.trans h1).drew (h2.perm (show _ = P19 * (OW * (PS * ((rowS TI ga c.k (fun i => 0 ^^^ mulC c.m f (rest i)) * rowS TI gb us.length (fun i => 0 ^^^ mulC c.m f (cf2 i))) * (BR * ((rowS TI gco us.length cf2 * rowS TI gt c.k rest) * old w4))))) by ac_rfl)).drew)
       clear h1 h2 q0 q1 q2
       refine reg_begin (fun W => W.cell? ⟨gs, 6, none⟩ = some (.slice ro rs.length rcp) ∧ W.heap[g19]? = some (.cells (rdA j c.k us.length ga gb) TRd (0, 0))) (by kernel_rfl) ?_
       generalize w12.drew = w13 at HS12 ⊢
       have HSP := Lib.hid (show ∀ W X Y, Sat W (X * (Y * (PS * (P19 * old w4)))) → W.cell? ⟨gs, 6, none⟩ = some (.slice ro rs.length rcp) ∧ W.heap[g19]? = some (.cells (rdA j c.k us.length ga gb) TRd (0, 0)) from fun W X Y h => by
        have h1 := h.perm (show _ = PS * (X * (Y * (P19 * old w4))) by ac_rfl)
        have h2 := h.perm (show _ = P19 * (X * (Y * (PS * old w4))) by ac_rfl)
        rw [HE.out.1] at h1
        rw [HPD.out] at h2
        exact ⟨by rw [cells_at h1.block]; rfl, h2.block⟩)
       have hS0 := HSP.out w13 OW ((rowS TI ga c.k (fun i => 0 ^^^ mulC c.m f (rest i)) * rowS TI gb us.length (fun i => 0 ^^^ mulC c.m f (cf2 i))) * (BR * (rowS TI gco us.length cf2 * rowS TI gt c.k rest))) (HS12.out.2.perm (by ac_rfl))
       (apply reg_take 0 rfl rfl (by decide +kernel) rfl); (intro w' hw'; go_simp; rfl); exact hS0; simp only [zq1, zq2, zq3]
       (apply reg_take 1 rfl rfl (by decide +kernel) rfl); (intro w' hw'; go_simp; rfl); exact hS0; simp only [zq1, zq2, zq3]
       (apply reg_take 2 rfl rfl (by decide +kernel) rfl); (intro w' hw'; go_simp; rfl); exact hS0; simp only [zq1, zq2, zq3]
       (apply reg_take 3 rfl rfl (by decide +kernel) rfl); (intro w' hw'; go_simp; rfl); exact hS0; simp only [zq1, zq2, zq3]
       refine reg_take 4 (v := .slice ro rs.length rcp) rfl rfl (by decide +kernel) rfl (fun w' h => exec_load_cell rfl rfl Tryz.underlying196 rfl h.1) hS0 ?_; simp only [zq1, zq2, zq3]
       refine reg_take 5 (v := .agg (rdA j c.k us.length ga gb)) rfl rfl (by decide +kernel) rfl (fun w' h => exec_load_mid rfl rfl (run_loadVar_row (P := Tryz.prog) w' g19 TRd TRd (rdA j c.k us.length ga gb) (0, 0) _ h.2 Tryz.underlying203 rfl (by kernel_rfl))) hS0 ?_; simp only [zq1, zq2, zq3]
       obtain ⟨i0, hi, hz0, hz1, hz2⟩ := info_parts info_rd
       have ha := HS12.out.2.alloc (.cells (rdA j c.k us.length ga gb) TRd)
       refine reg_run 6 (.slice (some ⟨w13.heap.size, 0, none⟩) 1 1) (w13.alloc (.cells (rdA j c.k us.length ga gb) TRd)) rfl rfl (by decide +kernel) rfl (exec_bs1 rfl rfl Tryz.underlying196 hi hz0 hz1 (by omega) (by omega) rfl) (HSP.out _ OW (pts w13.heap.size (.cells (rdA j c.k us.length ga gb) TRd (0, 0)) * ((rowS TI ga c.k (fun i => 0 ^^^ mulC c.m f (rest i)) * rowS TI gb us.length (fun i => 0 ^^^ mulC c.m f (cf2 i))) * (BR * (rowS TI gco us.length cf2 * rowS TI gt c.k rest)))) (ha.perm (by ac_rfl))) ?_
       simp only [zq1, zq2, zq3]
       obtain ⟨w14, hw14⟩ : ∃ W, W = w13.alloc (.cells (rdA j c.k us.length ga gb) TRd) := ⟨_, rfl⟩
       obtain ⟨g20, hg20⟩ : ∃ x, x = w13.heap.size := ⟨_, rfl⟩
       rw [← hw14, ← hg20] at ha ⊢
       have hsm14 : Same w4 w14 := by rw [hw14]; exact HS12.out.1.alloc _
       clear hw14
       have ha1 := ha.perm (show _ = OW * (pts g20 (.cells (rdA j c.k us.length ga gb) TRd (0, 0)) * (P19 * (PS * ((rowS TI ga c.k (fun i => 0 ^^^ mulC c.m f (rest i)) * rowS TI gb us.length (fun i => 0 ^^^ mulC c.m f (cf2 i))) * (BR * ((rowS TI gco us.length cf2 * rowS TI gt c.k rest) * old w4)))))) by ac_rfl)
       rw [HE.out.2.1] at ha1
       have hnews : ∀ q u, (rdA j c.k us.length ga gb).toList[q]? = some u → w14.cell? ((⟨g20, 0, none⟩ : Addr).add q) = some u := fun q u hu => by
        rw [Addr.add_mid, Nat.zero_add, cells_at ha.block]; rwa [Array.getElem?_toList] at hu
       obtain ⟨v', w15, hrun, h15, ha2⟩ := run_append_ownAt (P := Tryz.prog) TRds TRds TRd i0 _ Tryz.underlying196 hi hz0 (by rw [hz1]; rfl) (.slice ro rs.length rcp) rs.length _ (by rw [hz1]; exact ha1) ⟨g20, 0, none⟩ 1 1 (rdA j c.k us.length ga gb).toList (by rw [hz1]; rfl) hnews (by simp [rdA, hdrV, Value.oneCell']) (by have := HS.out.2.2.1; unfold maxLen; omega) (by have := HS.out.2.2.1; rw [hz2]; omega)
       rw [hz1] at ha2
       obtain ⟨ro', rcp', rfl⟩ := ownAt_slice ha2
       have ha3 := ha2.perm (show _ = PS * (ownAt TRd 3 (.slice ro' (rs.length + 1) rcp') (rs.length + 1) (rdE c.k us.length gr gc rs ++ (rdA j c.k us.length ga gb).toList) * (pts g20 (.cells (rdA j c.k us.length ga gb) TRd (0, 0)) * (P19 * ((rowS TI ga c.k (fun i => 0 ^^^ mulC c.m f (rest i)) * rowS TI gb us.length (fun i => 0 ^^^ mulC c.m f (cf2 i))) * (BR * ((rowS TI gco us.length cf2 * rowS TI gt c.k rest) * old w4)))))) by ac_rfl)
       have hS2 := HSP.out w15 (ownAt TRd 3 (.slice ro' (rs.length + 1) rcp') (rs.length + 1) (rdE c.k us.length gr gc rs ++ (rdA j c.k us.length ga gb).toList)) (pts g20 (.cells (rdA j c.k us.length ga gb) TRd (0, 0)) * ((rowS TI ga c.k (fun i => 0 ^^^ mulC c.m f (rest i)) * rowS TI gb us.length (fun i => 0 ^^^ mulC c.m f (cf2 i))) * (BR * (rowS TI gco us.length cf2 * rowS TI gt c.k rest)))) (ha3.perm (by ac_rfl))
       refine reg_run 7 (.slice ro' (rs.length + 1) rcp') w15 rfl rfl (by decide +kernel) rfl (exec_appG rfl rfl rfl hrun) hS2 ?_
       simp only [zq1, zq2, zq3]
       (apply reg_take 8 rfl rfl (by decide +kernel) rfl); (intro w' hw'; go_simp; rfl); exact hS2; simp only [zq1, zq2, zq3]
       (apply reg_take 9 rfl rfl (by decide +kernel) rfl); (intro w' hw'; go_simp; rfl); exact hS2; simp only [zq1, zq2, zq3]
       rw [HE.out.1] at ha3
       have ha4 := ha3.setCell (i := 6) (.slice ro' (rs.length + 1) rcp')
       rw [show (spV nm c.m c.k pv dom (.slice (some ⟨b0, off, none⟩) us.length ucp) ro rs.length rcp).setIfInBounds 6 (.slice ro' (rs.length + 1) rcp') = spV nm c.m c.k pv dom (.slice (some ⟨b0, off, none⟩) us.length ucp) ro' (rs.length + 1) rcp' from rfl] at ha4
       obtain ⟨tis, htis, htiss⟩ := Option.map_eq_some_iff.1 (show (Tryz.prog.info? TRds).map (·.size) = some 1 from by kernel_rfl)
       refine reg_do_last 10 (w15.setCell ⟨gs, 6, none⟩ (.slice ro' (rs.length + 1) rcp')) rfl rfl (by decide +kernel) rfl (exec_store_cell rfl rfl rfl htis htiss rfl hS2.1 (thawed_at ha3.block 6)) ?_
       have HS16 := Lib.hid (And.intro ((hsm14.trans h15).setCell ⟨gs, 6, none⟩ (.slice ro' (rs.length + 1) rcp')) ha4)
       clear ha4 ha3 ha2 ha1 ha hrun h15 hnews hS0 hS2 hsm14 hg20
       generalize w15.setCell ⟨gs, 6, none⟩ (.slice ro' (rs.length + 1) rcp') = w16 at HS16 ⊢
       go_wp2
       go_roundw
       case rel =>
        have ho := opsC HOK.out.1.fld
        refine ⟨⟨k + 1, rs ++ [⟨(j, fun i => mulC c.m f (rest i)), fun i => mulC c.m f (cf2 i)⟩], snG gr rs.length ga, snG gc rs.length gb, ro', rcp', hlt, by push_cast; rfl, by rw [List.length_append, List.length_singleton]; have := HS.out.2.2.1; omega, fun r hr => ?_, ?_, HS16.out.1, ?_⟩⟩
        ·rcases List.mem_append.1 hr with hr | hr
         ·exact HS.out.2.2.2.1 r hr
         ·rw [List.mem_singleton.1 hr]
          exact ⟨⟨hjl, fun i hi => ho.lt _ _ HF.out (HBD.out.1 i hi)⟩, fun i hi => ho.lt _ _ HF.out (HB2.out i hi)⟩
        ·rw [List.map_append, HS.out.2.2.2.2, rowsF_some HU.out HRW.out.symm hjl (by rw [← HX.out.1]; exact HX.out.2) HZ.out, ← HX.out.1, ← HFE.out]
         rfl
        ·unfold spnS
         rw [rdE_snoc, rdB_snoc, List.length_append, List.length_singleton]
         have h := HS16.out.2
         rw [HE.out.2.2, rowS_congr (f := fun i => 0 ^^^ mulC c.m f (rest i)) (f' := fun i => mulC c.m f (rest i)) fun i _ => Nat.zero_xor _, rowS_congr (f := fun i => 0 ^^^ mulC c.m f (cf2 i)) (f' := fun i => mulC c.m f (cf2 i)) fun i _ => Nat.zero_xor _] at h
         refine (h.perm (show _ = (pts g20 (.cells (rdA j c.k us.length ga gb) TRd (0, 0)) * (P19 * (rowS TI gco us.length cf2 * rowS TI gt c.k rest))) * _ from ?_)).right
         ac_rfl
       case measure => simp only [intOf]; omega
    ·have hjk : j = c.k := by omega
     subst hjk
     have hjd : decide ((c.k : Int) < (c.k : Int)) = false := decide_eq_false (by omega)
     clear HBD
     go_wp2
     go_roundw
     case rel =>
      refine ⟨⟨k + 1, rs, gr, gc, ro, rcp, hlt, by push_cast; rfl, by have := HS.out.2.2.1; omega, HS.out.2.2.2.1, ?_, HJ.out.1, ?_⟩⟩
      ·rw [HS.out.2.2.2.2, rowsF_none HU.out (by rw [← HRW.out]; exact HZ.out)]
      ·have h := HJ.out.2
       rw [HG.out] at h
       unfold spnS
       refine (h.perm (show _ = (rowS TI gco us.length cf2 * rowS TI gt c.k rest) * _ from ?_)).right
       ac_rfl
     case measure => simp only [intOf]; omega
  ·have hke : k = us.length := by omega
   subst hke
   have hltd : decide ((us.length : Int) < (us.length : Int)) = false := decide_eq_false (by omega)
   go_wp2
   try rw [Exit.noGoto_ret]
   go_ret2
   refine ⟨gs, rfl, ⟨nm, pv, dom, _, rs, gr, gc, ro, rcp, w4, rfl, HBL.out, HB4.out.2.2.1, HS.out.2.2.2.1, ?_, hrl, HS.out.1, HS.out.2.1⟩⟩
   have := HS.out.2.2.2.2
   rwa [List.take_length] at this
end Go.Proofs.YteikbikopgabjaaGreatDoor
