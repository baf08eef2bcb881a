import Derived.Test.YteikbikopgabjaaGreatDoorV47
/- Part 48 of a proof; the last part says what is proved. -/
namespace Go.Proofs.YteikbikopgabjaaGreatDoor
open Go.RowKit Go.Sha Go.Sl Go.GF Go.Vol Go.Loss
def CapOk (v : Value) : Prop := ∀ ao n cap, v = .slice ao n cap → n ≤ cap
theorem cnt_one {w : World} {ao : Option Addr} {n cap : Nat} {A : List ElC} {k : Nat} {x : ElC} (h : CntL w (.slice ao n cap) A) (hx : A[k]? = some x) : ∃ b off : Nat, ao = some ⟨b, off, none⟩ ∧ b < w.heap.size ∧
    w.cell? ⟨b, off + k * 4 + 1, none⟩ = some (.int .i64 x.1.tenant) ∧ ∀ cp, CntL w (.slice (some ⟨b, off + k * 4, none⟩) 1 cp) [x] := by
  obtain ⟨b, off, hb, hlt, c0, c1, c2, c3⟩ := c_cells h.row hx
  refine ⟨b, off, hb, hlt, c1, fun cp => ⟨⟨_, cp, rfl, by show 1 ≤ maxLen; unfold maxLen; decide, fun _ => ⟨b, off + k * 4, rfl, hlt, ?_⟩⟩, fun y hy => ?_⟩⟩
  · intro j u hu
    match j, hu with
    | 0, hu => cases hu; exact c0
    | 1, hu => cases hu; exact c1
    | 2, hu => cases hu; exact c2
    | 3, hu => cases hu; exact c3
  · rw [List.mem_singleton] at hy
    subst hy
    exact h.maps y (List.mem_of_getElem? hx)
structure TyS (w : World) (r : Nat) (pre : List EachE) (fl : Bool) (A : List ContM) (l : List ItM) (i : Value) (wr : World) : Prop where
  st : ∃ k : Nat, k ≤ A.length ∧ i = .int .i64 (k : Int) ∧ Same w wr ∧ Sat wr (ownAt TI 1 (.slice (some ⟨r, 0, none⟩) 16 16) 16 (intsV (tallyL (pre ++ eachP fl (A.take k) l))) * old w)
def TenOk (A : List ElC) : Prop := ∀ x ∈ A, 0 ≤ x.1.tenant ∧ x.1.tenant < 16
theorem pre_bound {A : List ElC} {l : List ItM} {fl : Bool} (h : A.length ≤ 12) (hm : mapsOk A) (k : Nat) : (eachP fl ((A.map Prod.fst).take k) l).length ≤ 480 := by
  have h1 := eachP_len fl l ((A.map Prod.fst).take k) (fun c hc => by
    obtain ⟨x, hx, rfl⟩ := List.mem_map.1 (List.mem_of_mem_take hc)
    exact hm x hx)
  rw [List.length_take, List.length_map] at h1
  omega
set_option maxRecDepth 20000 in
set_option maxHeartbeats 4000000 in
theorem rtally_any (va vb vi : Value) (A B : List ElC) (l : List ItM) (w : World) (hA : CntL w va A) (hB : CntL w vb B) (hca : CapOk va) (hcb : CapOk vb) (htA : TenOk A) (htB : TenOk B) (hI : ItL w vi l) (hF : FewP A B l) (hK : TabK w) :
    Calls Tryz.prog 16 #[va, vb, vi] w fun e w' => ∃ v, e = .returned v ∧ Same w w' ∧ Sat w' (ownAt TI 1 v 16 (intsV (tallyL (eachT (A.map Prod.fst) (B.map Prod.fst) l))) * old w) := by
  obtain ⟨i0, hi, hz0, hz1, hz2⟩ := info_parts info_int3
  obtain ⟨tc, htc, htcs⟩ := Option.map_eq_some_iff.1 info_ct
  obtain ⟨tn, htn, htns⟩ := Option.map_eq_some_iff.1 (show (Tryz.prog.info? TI).map (·.size) = some 1 from by kernel_rfl)
  have HA := Lib.hid (fun W (h : Below w.heap.size w W) => hA.below h)
  have HB := Lib.hid (fun W (h : Below w.heap.size w W) => hB.below h)
  have HP := Lib.hid (fun f v (x : ElC) (hx : x.1.maps.length ≤ 40) W (h : Below w.heap.size w W) (hc : CntL W v [x]) => part_any f v vi [x] l W hc (hI.below h) (by show 1 ≤ 12; decide) (by unfold mapsOk; intro y hy; rw [List.mem_singleton] at hy; subst hy; exact hx) hF.2.2.1 (hK.below h))
  have HFW := Lib.hid hF
  have HTA := Lib.hid htA
  have HTB := Lib.hid htB
  have H0 := Lib.hid (Sat.old w)
  obtain ⟨ao, ac, rfl, -⟩ := id hA.row
  obtain ⟨bo, bc, rfl, -⟩ := id hB.row
  obtain ⟨io, ic, rfl, -⟩ := id hI
  have hcpa := hca _ _ _ rfl
  have hcpb := hcb _ _ _ rfl
  clear hA hB hI hF hK htA htB hca hcb
  go_enter Tryz.func16, Tryz.ntmps16
  go_upto_region 2 with (at_make; refine wpList_make_full _ rfl _ _ 36 rfl w.heap.size TI i0 (.int .i64 0) 1 Tryz.underlying36 hi hz0 hz1 .i64 .i64 _ _ 16 rfl rfl ?_ ?_ ?_ ?_ ?_ ?_)
  all_goals first | rfl | omega | (rw [hz2]; omega) | (unfold maxLen; omega) | exact Nat.zero_le _ | exact Nat.le_refl _ | skip
  intro w2 hown hg
  have hs2 := Sat.ownRow H0.out (fun k hk => hg.block k hk (by simp)) (Nat.le_refl _) hown
  rw [show (madeCells #[Value.int .i64 0] 16).toList = intsV (tallyL []) by rw [made_zero, tallyL_nil]; rfl] at hs2
  have HS2 := Lib.hid (And.intro (show Same w w2 from ⟨hg.os, hg.tape, hg.output, hg.size⟩) hs2)
  clear hs2 hown hg
  generalize w.heap.size = r at HS2 ⊢
  have H1 := Lib.hid (show TyS w r [] false (A.map Prod.fst) l (.int .i64 0) w2 from ⟨0, Nat.zero_le _, rfl, HS2.out.1, HS2.out.2⟩)
  clear HS2 H0
  go_upto_region 3 with (fail)
  go_loopw [8] (fun i wr => TyS w r [] false (A.map Prod.fst) l i wr) (fun i _ => A.length - (intOf i).toNat)
  case atStart => exact H1.out
  case round =>
    clear H1
    obtain ⟨k, hk, rfl, hsm, hst⟩ := hrel.st
    clear hrel
    rw [List.length_map] at hk
    have hk12 : (k : Int) ≤ 12 := by have := HFW.out.1; omega
    have HS := Lib.hid (And.intro hsm hst)
    have HBW := Lib.hid (hsm.below_of hst)
    clear hsm hst
    by_cases hin : k < A.length
    · have hid : decide ((k : Int) < (A.length : Int)) = true := decide_eq_true (by omega)
      have hwk : IntKind.i64.wrap ((k : Int) + 1) = (k : Int) + 1 := IntWalk.i64_in _ (by omega)
      obtain ⟨x, hx⟩ : ∃ x, A[k]? = some x := ⟨_, List.getElem?_eq_getElem hin⟩
      have hxm := List.mem_of_getElem? hx
      have hx40 : x.1.maps.length ≤ 40 := HFW.out.2.2.2.1 x hxm
      obtain ⟨ht0, ht16⟩ := HTA.out x hxm
      obtain ⟨t, htq⟩ : ∃ t : Nat, x.1.tenant = (t : Int) := ⟨x.1.tenant.toNat, by omega⟩
      have ht : t < 16 := by omega
      obtain ⟨cb, off, rfl, hb0, c1, hone⟩ := cnt_one (HA.out wr HBW.out) hx
      rw [htq] at c1
      have HPS := Lib.hid (eachP_succ false (A.map Prod.fst) l (k := k) (c := x.1) (by rw [List.getElem?_map, hx]; rfl))
      have HGL := Lib.hid (gonesC_len false x.1.id x.1.maps l)
      have HP1 := Lib.hid (partL_one false x.1 l)
      rw [htq] at HPS
      obtain ⟨es, hes⟩ : ∃ es, es = [] ++ eachP false ((A.map Prod.fst).take k) l := ⟨_, rfl⟩
      have HEL := Lib.hid (show es.length ≤ 960 by rw [hes]; rw [List.nil_append]; exact Nat.le_trans (pre_bound HFW.out.1 HFW.out.2.2.2.1 k) (by decide))
      have HES := Lib.hid hes
      rw [← hes] at HS
      obtain ⟨gs, hgs⟩ : ∃ gs, gs = gonesC false x.1.id x.1.maps l := ⟨_, rfl⟩
      rw [← hgs] at HPS HGL HP1
      have HTL := Lib.hid (tallyL_add es ht gs)
      have hcn := countP_ten es t
      have HAT := Lib.hid (tallyL_at es ht)
      generalize (es.countP fun e => e.1 == ((t : Nat) : Int)) = c at HTL HAT hcn
      have hc9 : (c : Int) ≤ 960 := by have := HEL.out; omega
      have hg9 : gs.length ≤ 40 := by have := HGL.out; omega
      clear hes hgs hcn hx hxm ht0 ht16
      obtain ⟨gr, cr, e, hc⟩ := ownAt_cells HS.out.2 (by omega)
      cases e
      have q1 : wr.cell? ⟨r, t, none⟩ = some (.int .i64 (c : Int)) := hc t _ (by unfold intsV; rw [List.getElem?_map, HAT.out]; rfl)
      clear hc
      have HC1 := Lib.hid (hone (ac - k))
      clear hone
      go_upto_region 5 with (fail)
      have hS0 : wr.drew.cell? ⟨cb, off + k * 4 + 1, none⟩ = some (.int .i64 (t : Int)) ∧ wr.drew.cell? ⟨r, t, none⟩ = some (.int .i64 (c : Int)) := ⟨c1, q1⟩
      refine reg_begin (fun w' => w'.cell? ⟨cb, off + k * 4 + 1, none⟩ = some (.int .i64 (t : Int)) ∧ w'.cell? ⟨r, t, none⟩ = some (.int .i64 (c : Int))) (by kernel_rfl) ?_
      (apply reg_take 0 rfl rfl (by decide +kernel) rfl); (rintro w' ⟨h1, h2⟩; go_simp; rfl); exact hS0; simp only [List.setIfInBounds_toArray, List.set_cons_succ, List.set_cons_zero]
      (apply reg_take 1 rfl rfl (by decide +kernel) rfl); (rintro w' ⟨h1, h2⟩; go_simp; rfl); exact hS0; simp only [List.setIfInBounds_toArray, List.set_cons_succ, List.set_cons_zero]
      (apply reg_take 2 rfl rfl (by decide +kernel) rfl); (rintro w' ⟨h1, h2⟩; go_simp; rfl); exact hS0; simp only [List.setIfInBounds_toArray, List.set_cons_succ, List.set_cons_zero]
      refine reg_take 3 (v := .pointer (some ⟨cb, off + k * 4, none⟩)) rfl rfl (by decide +kernel) rfl (fun _ _ => exec_index_slice (n := A.length) rfl rfl rfl Tryz.underlying22 htc htcs hin) hS0 ?_; simp only [List.setIfInBounds_toArray, List.set_cons_succ, List.set_cons_zero]
      (apply reg_take 4 rfl rfl (by decide +kernel) rfl); (rintro w' ⟨h1, h2⟩; go_simp; rfl); exact hS0; simp only [List.setIfInBounds_toArray, List.set_cons_succ, List.set_cons_zero]
      refine reg_take 5 (v := .int .i64 (t : Int)) rfl rfl (by decide +kernel) rfl (fun _ h => exec_load_cell rfl rfl Tryz.underlying3 rfl h.1) hS0 ?_; simp only [List.setIfInBounds_toArray, List.set_cons_succ, List.set_cons_zero]
      (apply reg_take 6 rfl rfl (by decide +kernel) rfl); (rintro w' ⟨h1, h2⟩; go_simp; rfl); exact hS0; simp only [List.setIfInBounds_toArray, List.set_cons_succ, List.set_cons_zero]
      (apply reg_take 7 rfl rfl (by decide +kernel) rfl); (rintro w' ⟨h1, h2⟩; go_simp; rfl); exact hS0; simp only [List.setIfInBounds_toArray, List.set_cons_succ, List.set_cons_zero]
      (apply reg_take 8 rfl rfl (by decide +kernel) rfl); (rintro w' ⟨h1, h2⟩; go_simp; rfl); exact hS0; simp only [List.setIfInBounds_toArray, List.set_cons_succ, List.set_cons_zero]
      refine reg_take 9 (v := .pointer (some ⟨cb, off + k * 4, none⟩)) rfl rfl (by decide +kernel) rfl (fun _ _ => exec_index_slice (n := A.length) rfl rfl rfl Tryz.underlying22 htc htcs hin) hS0 ?_; simp only [List.setIfInBounds_toArray, List.set_cons_succ, List.set_cons_zero]
      (apply reg_take 10 rfl rfl (by decide +kernel) rfl); (rintro w' ⟨h1, h2⟩; go_simp; rfl); exact hS0; simp only [List.setIfInBounds_toArray, List.set_cons_succ, List.set_cons_zero]
      refine reg_take 11 (v := .int .i64 (t : Int)) rfl rfl (by decide +kernel) rfl (fun _ h => exec_load_cell rfl rfl Tryz.underlying3 rfl h.1) hS0 ?_; simp only [List.setIfInBounds_toArray, List.set_cons_succ, List.set_cons_zero]
      refine reg_take 12 (v := .pointer (some ⟨r, 0 + t * 1, none⟩)) rfl rfl (by decide +kernel) rfl (fun _ _ => exec_index_slice (n := 16) rfl rfl rfl Tryz.underlying36 htn htns ht) hS0 ?_; simp only [List.setIfInBounds_toArray, List.set_cons_succ, List.set_cons_zero]
      refine reg_take 13 (v := .int .i64 (c : Int)) rfl rfl (by decide +kernel) rfl (fun _ h => exec_load_cell rfl rfl Tryz.underlying3 rfl (by rw [Nat.zero_add, Nat.mul_one]; exact h.2)) hS0 ?_; simp only [List.setIfInBounds_toArray, List.set_cons_succ, List.set_cons_zero]
      (apply reg_take 14 rfl rfl (by decide +kernel) rfl); (rintro w' ⟨h1, h2⟩; go_simp; rfl); exact hS0; simp only [List.setIfInBounds_toArray, List.set_cons_succ, List.set_cons_zero]
      (apply reg_take 15 rfl rfl (by decide +kernel) rfl); (rintro w' ⟨h1, h2⟩; go_simp; rfl); exact hS0; simp only [List.setIfInBounds_toArray, List.set_cons_succ, List.set_cons_zero]
      (apply reg_take 16 rfl rfl (by decide +kernel) rfl); (rintro w' ⟨h1, h2⟩; go_simp; rfl); exact hS0; simp only [List.setIfInBounds_toArray, List.set_cons_succ, List.set_cons_zero]
      (apply reg_take 17 rfl rfl (by decide +kernel) rfl); (rintro w' ⟨h1, h2⟩; go_simp; rfl); exact hS0; simp only [List.setIfInBounds_toArray, List.set_cons_succ, List.set_cons_zero]
      refine reg_take 18 (v := .slice (some ⟨cb, off + k * 4, none⟩) 1 (ac - k)) rfl rfl (by decide +kernel) rfl (fun w' _ => exec_sl_run rfl rfl ((run_sl_both Tryz.underlying22 (by rw [htc, Option.map_some, htcs]) cb off A.length ac k (k + 1) (by omega) (by omega) w').trans (by rw [if_neg (by omega), show k + 1 - k = 1 by omega]))) hS0 ?_; simp only [List.setIfInBounds_toArray, List.set_cons_succ, List.set_cons_zero]
      (apply reg_take 19 rfl rfl (by decide +kernel) rfl); (rintro w' ⟨h1, h2⟩; go_simp; rfl); exact hS0; simp only [List.setIfInBounds_toArray, List.set_cons_succ, List.set_cons_zero]
      refine reg_call 20 rfl rfl (by decide +kernel) rfl (by kernel_rfl) (HP.out false _ x hx40 wr.drew HBW.out.drew (HC1.out.below (Below.refl _ _).drew)) ?_
      rintro v w7 ⟨h7, h8⟩
      simp only [List.setIfInBounds_toArray, List.set_cons_succ, List.set_cons_zero]
      rw [show [x].map Prod.fst = [x.1] from rfl, HP1.out] at h8
      have hb7 := h7.below_of h8
      unfold ownG at h8
      obtain ⟨vo, vc, rfl⟩ := ownAt_slice h8
      have hs7 := h8.of_all HS.out.2.drew
      have hp7 := hs7.perm (show _ = ownAt TI 1 (.slice (some ⟨r, 0, none⟩) 16 16) 16 (intsV (tallyL es)) * (ownAt TGn 19 (.slice vo gs.length vc) gs.length (gs.flatMap gnE) * old w) by ac_rfl)
      obtain ⟨gr, cr, e, hc⟩ := ownAt_cells hp7 (by omega)
      cases e
      have q7 : w7.cell? ⟨r, t, none⟩ = some (.int .i64 (c : Int)) := hc t _ (by unfold intsV; rw [List.getElem?_map, HAT.out]; rfl)
      have p7 : w7.cell? ⟨cb, off + k * 4 + 1, none⟩ = some (.int .i64 (t : Int)) := (hb7.cell (p := ⟨cb, off + k * 4 + 1, none⟩) hb0).trans c1
      obtain ⟨-, f7, h9⟩ := ownAt_set hp7 ht (.int .i64 ((c : Int) + (gs.length : Int)))
      have HF := Lib.hid (And.intro ((HS.out.1.drew.trans h7).setCell ⟨r, t, none⟩ (.int .i64 ((c : Int) + (gs.length : Int)))) h9)
      have hS7 := And.intro p7 q7
      clear h7 h8 hs7 hp7 h9 hc hb7 hS0 c1 q1
      refine ⟨hS7, ?_⟩
      (apply reg_take 21 rfl rfl (by decide +kernel) rfl); (rintro w' ⟨h1, h2⟩; go_simp; rfl); exact hS7; simp only [List.setIfInBounds_toArray, List.set_cons_succ, List.set_cons_zero]
      refine reg_take 22 (v := .int .i64 ((c : Int) + (gs.length : Int))) rfl rfl (by decide +kernel) rfl (fun w' _ => exec_binop (vx := .int .i64 (c : Int)) (vy := .int .i64 (gs.length : Int)) rfl rfl rfl rfl (run_add_i64 _ _ _ (by omega) w')) hS7 ?_; simp only [List.setIfInBounds_toArray, List.set_cons_succ, List.set_cons_zero]
      refine reg_take 23 (v := .pointer (some ⟨r, 0 + t * 1, none⟩)) rfl rfl (by decide +kernel) rfl (fun _ _ => exec_index_slice (n := 16) rfl rfl rfl Tryz.underlying36 htn htns ht) hS7 ?_; simp only [List.setIfInBounds_toArray, List.set_cons_succ, List.set_cons_zero]
      refine reg_do_last 24 (w7.setCell ⟨r, t, none⟩ (.int .i64 ((c : Int) + (gs.length : Int)))) rfl rfl (by decide +kernel) rfl (exec_store_cell rfl (by simp [Act.eval]) rfl htn htns rfl hS7.2 f7) ?_
      clear hS7 f7 p7 q7
      generalize w7.setCell ⟨r, t, none⟩ (.int .i64 ((c : Int) + (gs.length : Int))) = w8 at HF ⊢
      have HE := Lib.hid (show TyS w r [] false (A.map Prod.fst) l (.int .i64 ((k : Int) + 1)) w8 from ⟨k + 1, by rw [List.length_map]; exact hin, by push_cast; rfl, HF.out.1, by
        have h := HF.out.2
        rw [HPS.out, ← List.append_assoc, ← HES.out, HTL.out]
        rw [show (intsV (tallyL es)).set t (.int .i64 ((c : Int) + (gs.length : Int))) = intsV ((tallyL es).set t ((c : Int) + (gs.length : Int))) by unfold intsV; rw [List.map_set]] at h
        exact (h.perm (show _ = ownAt TGn 19 (.slice vo gs.length vc) gs.length (gs.flatMap gnE) * (ownAt TI 1 (.slice (some ⟨r, 0, none⟩) 16 16) 16 (intsV ((tallyL es).set t ((c : Int) + (gs.length : Int)))) * old w) by ac_rfl)).right⟩)
      clear HF
      go_wp2
      go_roundw
      case rel => exact HE.out
      case measure => simp only [intOf]; omega
    · have hke : k = A.length := by omega
      have hid : decide ((k : Int) < (A.length : Int)) = false := decide_eq_false (by omega)
      have HS' := Lib.hid (show Same w wr ∧ Sat wr (ownAt TI 1 (.slice (some ⟨r, 0, none⟩) 16 16) 16 (intsV (tallyL ([] ++ eachP false (A.map Prod.fst) l))) * old w) from ⟨HS.out.1, by
        have h := HS.out.2
        rwa [hke, show A.length = (A.map Prod.fst).length by rw [List.length_map], List.take_length] at h⟩)
      clear HS hke
      have H2 := Lib.hid (show TyS w r (eachP false (A.map Prod.fst) l) true (B.map Prod.fst) l (.int .i64 0) wr from ⟨0, Nat.zero_le _, rfl, HS'.out.1, by
        have h := HS'.out.2
        rw [List.nil_append] at h
        rw [show eachP true ((B.map Prod.fst).take 0) l = [] from rfl, List.append_nil]; exact h⟩)
      clear HS' hk12 hk
      go_upto_region 7 with (fail)
      all_goals try contradiction
      go_loopw [9] (fun i wr => TyS w r (eachP false (A.map Prod.fst) l) true (B.map Prod.fst) l i wr) (fun i _ => B.length - (intOf i).toNat)
      case atStart => exact H2.out
      case round =>
        clear H2
        obtain ⟨k, hk, rfl, hsm, hst⟩ := hrel.st
        clear hrel
        rw [List.length_map] at hk
        have hk12 : (k : Int) ≤ 12 := by have := HFW.out.2.1; omega
        have HS := Lib.hid (And.intro hsm hst)
        have HBW := Lib.hid (hsm.below_of hst)
        clear hsm hst
        by_cases hin : k < B.length
        · have hid : decide ((k : Int) < (B.length : Int)) = true := decide_eq_true (by omega)
          have hwk : IntKind.i64.wrap ((k : Int) + 1) = (k : Int) + 1 := IntWalk.i64_in _ (by omega)
          obtain ⟨x, hx⟩ : ∃ x, B[k]? = some x := ⟨_, List.getElem?_eq_getElem hin⟩
          have hxm := List.mem_of_getElem? hx
          have hx40 : x.1.maps.length ≤ 40 := HFW.out.2.2.2.2 x hxm
          obtain ⟨ht0, ht16⟩ := HTB.out x hxm
          obtain ⟨t, htq⟩ : ∃ t : Nat, x.1.tenant = (t : Int) := ⟨x.1.tenant.toNat, by omega⟩
          have ht : t < 16 := by omega
          obtain ⟨cb, off, rfl, hb0, c1, hone⟩ := cnt_one (HB.out wr HBW.out) hx
          rw [htq] at c1
          have HPS := Lib.hid (eachP_succ true (B.map Prod.fst) l (k := k) (c := x.1) (by rw [List.getElem?_map, hx]; rfl))
          have HGL := Lib.hid (gonesC_len true x.1.id x.1.maps l)
          have HP1 := Lib.hid (partL_one true x.1 l)
          rw [htq] at HPS
          obtain ⟨es, hes⟩ : ∃ es, es = (eachP false (A.map Prod.fst) l) ++ eachP true ((B.map Prod.fst).take k) l := ⟨_, rfl⟩
          have HEL := Lib.hid (show es.length ≤ 960 by rw [hes]; rw [List.length_append]; have q1 := pre_bound (l := l) (fl := false) HFW.out.1 HFW.out.2.2.2.1 A.length; rw [show A.length = (A.map Prod.fst).length by rw [List.length_map], List.take_length] at q1; have q2 := pre_bound (l := l) (fl := true) HFW.out.2.1 HFW.out.2.2.2.2 k; omega)
          have HES := Lib.hid hes
          rw [← hes] at HS
          obtain ⟨gs, hgs⟩ : ∃ gs, gs = gonesC true x.1.id x.1.maps l := ⟨_, rfl⟩
          rw [← hgs] at HPS HGL HP1
          have HTL := Lib.hid (tallyL_add es ht gs)
          have hcn := countP_ten es t
          have HAT := Lib.hid (tallyL_at es ht)
          generalize (es.countP fun e => e.1 == ((t : Nat) : Int)) = c at HTL HAT hcn
          have hc9 : (c : Int) ≤ 960 := by have := HEL.out; omega
          have hg9 : gs.length ≤ 40 := by have := HGL.out; omega
          clear hes hgs hcn hx hxm ht0 ht16
          obtain ⟨gr, cr, e, hc⟩ := ownAt_cells HS.out.2 (by omega)
          cases e
          have q1 : wr.cell? ⟨r, t, none⟩ = some (.int .i64 (c : Int)) := hc t _ (by unfold intsV; rw [List.getElem?_map, HAT.out]; rfl)
          clear hc
          have HC1 := Lib.hid (hone (bc - k))
          clear hone
          go_upto_region 9 with (fail)
          have hS0 : wr.drew.cell? ⟨cb, off + k * 4 + 1, none⟩ = some (.int .i64 (t : Int)) ∧ wr.drew.cell? ⟨r, t, none⟩ = some (.int .i64 (c : Int)) := ⟨c1, q1⟩
          refine reg_begin (fun w' => w'.cell? ⟨cb, off + k * 4 + 1, none⟩ = some (.int .i64 (t : Int)) ∧ w'.cell? ⟨r, t, none⟩ = some (.int .i64 (c : Int))) (by kernel_rfl) ?_
          (apply reg_take 0 rfl rfl (by decide +kernel) rfl); (rintro w' ⟨h1, h2⟩; go_simp; rfl); exact hS0; simp only [List.setIfInBounds_toArray, List.set_cons_succ, List.set_cons_zero]
          (apply reg_take 1 rfl rfl (by decide +kernel) rfl); (rintro w' ⟨h1, h2⟩; go_simp; rfl); exact hS0; simp only [List.setIfInBounds_toArray, List.set_cons_succ, List.set_cons_zero]
          (apply reg_take 2 rfl rfl (by decide +kernel) rfl); (rintro w' ⟨h1, h2⟩; go_simp; rfl); exact hS0; simp only [List.setIfInBounds_toArray, List.set_cons_succ, List.set_cons_zero]
          refine reg_take 3 (v := .pointer (some ⟨cb, off + k * 4, none⟩)) rfl rfl (by decide +kernel) rfl (fun _ _ => exec_index_slice (n := B.length) rfl rfl rfl Tryz.underlying22 htc htcs hin) hS0 ?_; simp only [List.setIfInBounds_toArray, List.set_cons_succ, List.set_cons_zero]
          (apply reg_take 4 rfl rfl (by decide +kernel) rfl); (rintro w' ⟨h1, h2⟩; go_simp; rfl); exact hS0; simp only [List.setIfInBounds_toArray, List.set_cons_succ, List.set_cons_zero]
          refine reg_take 5 (v := .int .i64 (t : Int)) rfl rfl (by decide +kernel) rfl (fun _ h => exec_load_cell rfl rfl Tryz.underlying3 rfl h.1) hS0 ?_; simp only [List.setIfInBounds_toArray, List.set_cons_succ, List.set_cons_zero]
          (apply reg_take 6 rfl rfl (by decide +kernel) rfl); (rintro w' ⟨h1, h2⟩; go_simp; rfl); exact hS0; simp only [List.setIfInBounds_toArray, List.set_cons_succ, List.set_cons_zero]
          (apply reg_take 7 rfl rfl (by decide +kernel) rfl); (rintro w' ⟨h1, h2⟩; go_simp; rfl); exact hS0; simp only [List.setIfInBounds_toArray, List.set_cons_succ, List.set_cons_zero]
          (apply reg_take 8 rfl rfl (by decide +kernel) rfl); (rintro w' ⟨h1, h2⟩; go_simp; rfl); exact hS0; simp only [List.setIfInBounds_toArray, List.set_cons_succ, List.set_cons_zero]
          refine reg_take 9 (v := .pointer (some ⟨cb, off + k * 4, none⟩)) rfl rfl (by decide +kernel) rfl (fun _ _ => exec_index_slice (n := B.length) rfl rfl rfl Tryz.underlying22 htc htcs hin) hS0 ?_; simp only [List.setIfInBounds_toArray, List.set_cons_succ, List.set_cons_zero]
          (apply reg_take 10 rfl rfl (by decide +kernel) rfl); (rintro w' ⟨h1, h2⟩; go_simp; rfl); exact hS0; simp only [List.setIfInBounds_toArray, List.set_cons_succ, List.set_cons_zero]
          refine reg_take 11 (v := .int .i64 (t : Int)) rfl rfl (by decide +kernel) rfl (fun _ h => exec_load_cell rfl rfl Tryz.underlying3 rfl h.1) hS0 ?_; simp only [List.setIfInBounds_toArray, List.set_cons_succ, List.set_cons_zero]
          refine reg_take 12 (v := .pointer (some ⟨r, 0 + t * 1, none⟩)) rfl rfl (by decide +kernel) rfl (fun _ _ => exec_index_slice (n := 16) rfl rfl rfl Tryz.underlying36 htn htns ht) hS0 ?_; simp only [List.setIfInBounds_toArray, List.set_cons_succ, List.set_cons_zero]
          refine reg_take 13 (v := .int .i64 (c : Int)) rfl rfl (by decide +kernel) rfl (fun _ h => exec_load_cell rfl rfl Tryz.underlying3 rfl (by rw [Nat.zero_add, Nat.mul_one]; exact h.2)) hS0 ?_; simp only [List.setIfInBounds_toArray, List.set_cons_succ, List.set_cons_zero]
          (apply reg_take 14 rfl rfl (by decide +kernel) rfl); (rintro w' ⟨h1, h2⟩; go_simp; rfl); exact hS0; simp only [List.setIfInBounds_toArray, List.set_cons_succ, List.set_cons_zero]
          (apply reg_take 15 rfl rfl (by decide +kernel) rfl); (rintro w' ⟨h1, h2⟩; go_simp; rfl); exact hS0; simp only [List.setIfInBounds_toArray, List.set_cons_succ, List.set_cons_zero]
          (apply reg_take 16 rfl rfl (by decide +kernel) rfl); (rintro w' ⟨h1, h2⟩; go_simp; rfl); exact hS0; simp only [List.setIfInBounds_toArray, List.set_cons_succ, List.set_cons_zero]
          (apply reg_take 17 rfl rfl (by decide +kernel) rfl); (rintro w' ⟨h1, h2⟩; go_simp; rfl); exact hS0; simp only [List.setIfInBounds_toArray, List.set_cons_succ, List.set_cons_zero]
          refine reg_take 18 (v := .slice (some ⟨cb, off + k * 4, none⟩) 1 (bc - k)) rfl rfl (by decide +kernel) rfl (fun w' _ => exec_sl_run rfl rfl ((run_sl_both Tryz.underlying22 (by rw [htc, Option.map_some, htcs]) cb off B.length bc k (k + 1) (by omega) (by omega) w').trans (by rw [if_neg (by omega), show k + 1 - k = 1 by omega]))) hS0 ?_; simp only [List.setIfInBounds_toArray, List.set_cons_succ, List.set_cons_zero]
          (apply reg_take 19 rfl rfl (by decide +kernel) rfl); (rintro w' ⟨h1, h2⟩; go_simp; rfl); exact hS0; simp only [List.setIfInBounds_toArray, List.set_cons_succ, List.set_cons_zero]
          refine reg_call 20 rfl rfl (by decide +kernel) rfl (by kernel_rfl) (HP.out true _ x hx40 wr.drew HBW.out.drew (HC1.out.below (Below.refl _ _).drew)) ?_
          rintro v w7 ⟨h7, h8⟩
          simp only [List.setIfInBounds_toArray, List.set_cons_succ, List.set_cons_zero]
          rw [show [x].map Prod.fst = [x.1] from rfl, HP1.out] at h8
          have hb7 := h7.below_of h8
          unfold ownG at h8
          obtain ⟨vo, vc, rfl⟩ := ownAt_slice h8
          have hs7 := h8.of_all HS.out.2.drew
          have hp7 := hs7.perm (show _ = ownAt TI 1 (.slice (some ⟨r, 0, none⟩) 16 16) 16 (intsV (tallyL es)) * (ownAt TGn 19 (.slice vo gs.length vc) gs.length (gs.flatMap gnE) * old w) by ac_rfl)
          obtain ⟨gr, cr, e, hc⟩ := ownAt_cells hp7 (by omega)
          cases e
          have q7 : w7.cell? ⟨r, t, none⟩ = some (.int .i64 (c : Int)) := hc t _ (by unfold intsV; rw [List.getElem?_map, HAT.out]; rfl)
          have p7 : w7.cell? ⟨cb, off + k * 4 + 1, none⟩ = some (.int .i64 (t : Int)) := (hb7.cell (p := ⟨cb, off + k * 4 + 1, none⟩) hb0).trans c1
          obtain ⟨-, f7, h9⟩ := ownAt_set hp7 ht (.int .i64 ((c : Int) + (gs.length : Int)))
          have HF := Lib.hid (And.intro ((HS.out.1.drew.trans h7).setCell ⟨r, t, none⟩ (.int .i64 ((c : Int) + (gs.length : Int)))) h9)
          have hS7 := And.intro p7 q7
          clear h7 h8 hs7 hp7 h9 hc hb7 hS0 c1 q1
          refine ⟨hS7, ?_⟩
          (apply reg_take 21 rfl rfl (by decide +kernel) rfl); (rintro w' ⟨h1, h2⟩; go_simp; rfl); exact hS7; simp only [List.setIfInBounds_toArray, List.set_cons_succ, List.set_cons_zero]
          refine reg_take 22 (v := .int .i64 ((c : Int) + (gs.length : Int))) rfl rfl (by decide +kernel) rfl (fun w' _ => exec_binop (vx := .int .i64 (c : Int)) (vy := .int .i64 (gs.length : Int)) rfl rfl rfl rfl (run_add_i64 _ _ _ (by omega) w')) hS7 ?_; simp only [List.setIfInBounds_toArray, List.set_cons_succ, List.set_cons_zero]
          refine reg_take 23 (v := .pointer (some ⟨r, 0 + t * 1, none⟩)) rfl rfl (by decide +kernel) rfl (fun _ _ => exec_index_slice (n := 16) rfl rfl rfl Tryz.underlying36 htn htns ht) hS7 ?_; simp only [List.setIfInBounds_toArray, List.set_cons_succ, List.set_cons_zero]
          refine reg_do_last 24 (w7.setCell ⟨r, t, none⟩ (.int .i64 ((c : Int) + (gs.length : Int)))) rfl rfl (by decide +kernel) rfl (exec_store_cell rfl (by simp [Act.eval]) rfl htn htns rfl hS7.2 f7) ?_
          clear hS7 f7 p7 q7
          generalize w7.setCell ⟨r, t, none⟩ (.int .i64 ((c : Int) + (gs.length : Int))) = w8 at HF ⊢
          have HE := Lib.hid (show TyS w r (eachP false (A.map Prod.fst) l) true (B.map Prod.fst) l (.int .i64 ((k : Int) + 1)) w8 from ⟨k + 1, by rw [List.length_map]; exact hin, by push_cast; rfl, HF.out.1, by
            have h := HF.out.2
            rw [HPS.out, ← List.append_assoc, ← HES.out, HTL.out]
            rw [show (intsV (tallyL es)).set t (.int .i64 ((c : Int) + (gs.length : Int))) = intsV ((tallyL es).set t ((c : Int) + (gs.length : Int))) by unfold intsV; rw [List.map_set]] at h
            exact (h.perm (show _ = ownAt TGn 19 (.slice vo gs.length vc) gs.length (gs.flatMap gnE) * (ownAt TI 1 (.slice (some ⟨r, 0, none⟩) 16 16) 16 (intsV ((tallyL es).set t ((c : Int) + (gs.length : Int)))) * old w) by ac_rfl)).right⟩)
          clear HF
          go_wp2
          go_roundw
          case rel => exact HE.out
          case measure => simp only [intOf]; omega
        · have hke : k = B.length := by omega
          have hid : decide ((k : Int) < (B.length : Int)) = false := decide_eq_false (by omega)
          have HS' := Lib.hid (show Same w wr ∧ Sat wr (ownAt TI 1 (.slice (some ⟨r, 0, none⟩) 16 16) 16 (intsV (tallyL ((eachP false (A.map Prod.fst) l) ++ eachP true (B.map Prod.fst) l))) * old w) from ⟨HS.out.1, by
            have h := HS.out.2
            rwa [hke, show B.length = (B.map Prod.fst).length by rw [List.length_map], List.take_length] at h⟩)
          clear HS hke
          go_wp2
          go_ret
          exact ⟨_, rfl, HS'.out.1, HS'.out.2⟩
end Go.Proofs.YteikbikopgabjaaGreatDoor
