import Derived.Test.YteikbikopgabjaaGreatDoorH38
/- Part 39 of a proof; the last part says what is proved. -/
namespace Go.Proofs.YteikbikopgabjaaGreatDoor
open Go.RowKit Go.Sl Go.GF Go.Vol
abbrev TIz : TypeId := 36
def redA (k nb : Nat) (t : Nat → Nat) (i : Nat) (v : Value) : HProp :=
 if i = 1 then Sl.ex fun g : Nat × Nat => Sl.lift (v = hdrV k g) * rowS TI g k t
 else if i = 7 then Sl.ex fun g : Nat × Nat => Sl.lift (v = hdrV nb g) * rowS TI g nb (fun _ => 0)
 else Sl.ex fun g : Nat => Sl.lift (v = .pointer (some ⟨g, 0, none⟩)) * pts g (.cells #[.slice none 0 0] TIz (0, 0))
theorem redA1 {w : World} {F : HProp} {k nb : Nat} {t : Nat → Nat} {v : Value} : Sat w (redA k nb t 1 v * F) ↔ ∃ g, v = hdrV k g ∧ Sat w (rowS TI g k t * F) := by
 unfold redA
 rw [if_pos rfl, Sat.ex]
 exact exists_congr fun g => by rw [star_assoc, Sat.lift]
theorem redA7 {w : World} {F : HProp} {k nb : Nat} {t : Nat → Nat} {v : Value} : Sat w (redA k nb t 7 v * F) ↔ ∃ g, v = hdrV nb g ∧ Sat w (rowS TI g nb (fun _ => 0) * F) := by
 unfold redA
 rw [if_neg (by decide), if_pos rfl, Sat.ex]
 exact exists_congr fun g => by rw [star_assoc, Sat.lift]
theorem redAp {w : World} {F : HProp} {k nb i : Nat} (h1 : i ≠ 1) (h7 : i ≠ 7) {t : Nat → Nat} {v : Value} : Sat w (redA k nb t i v * F) ↔ ∃ g, v = .pointer (some ⟨g, 0, none⟩) ∧ Sat w (pts g (.cells #[.slice none 0 0] TIz (0, 0)) * F) := by
 unfold redA
 rw [if_neg h1, if_neg h7, Sat.ex]
 exact exists_congr fun g => by rw [star_assoc, Sat.lift]
theorem zeroIz (w : World) : (zeroValue TIz).run Tryz.prog w = .ok (.slice none 0 0) w := by kernel_rfl
theorem exec_allocS {a : Act} {o : Oper} {w : World} {e : TypeId} (ho : o.op = .alloc e) (hz : (zeroValue e).run Tryz.prog w = .ok (.slice none 0 0) w) :
  (execOp a.eval o).run Tryz.prog w = .ok (.value (.pointer (some ⟨w.heap.size, 0, none⟩))) (w.alloc (.cells #[.slice none 0 0] e)) := by
 unfold execOp
 simp [ho, Instr.alloc, hz, newVar, newRow, Value.cells]
theorem cloneI_run (args : Array Value) (w : World) : (callFunc 144 args).run Tryz.prog w = .ok (.enter 144 args) w := by kernel_rfl
def zRd : Array Value := #[.int .i64 0, .slice none 0 0, .slice none 0 0]
theorem zeroRd (w : World) : (zeroValue TRd).run Tryz.prog w = .ok (.agg zRd) w := by kernel_rfl
theorem infoRd {c : Array Value} (h : c.size = 3) : (Tryz.prog.info? TRd).map (·.size) = some c.size := by rw [h]; kernel_rfl
theorem rdB_pick {k nb : Nat} {gr gc : Nat → Nat × Nat} {rs : List RdM} {i : Nat} {x : RdM} (h : rs[i]? = some x) : ∃ BH, rdB k nb gr gc rs = (rowS TI (gr i) k x.row.2 * rowS TI (gc i) nb x.coef) * BH := by
 unfold rdB
 rw [bigs_pick (i := i) (List.getElem?_eq_some_iff.1 h).1]
 simp only [h]
 exact ⟨_, rfl⟩
structure RdL (w : World) (V : HProp) (c : CodeM) (nb : Nat) (t : Nat → Nat) (rs : List RdM) (gt gco : Nat × Nat) (F : HProp) (i : Value) (wr : World) : Prop where
 st : ∃ k : Nat, k ≤ rs.length ∧ i = .int .i64 (k : Int) ∧ Same w wr ∧ Sat wr (V * (rowS TI gt c.k (redAll c (rs.take k) (t, fun _ => 0)).1 * (rowS TI gco nb (redAll c (rs.take k) (t, fun _ => 0)).2 * F)))
set_option maxRecDepth 20000 in
set_option maxHeartbeats 4000000 in
theorem spred_any (c : CodeM) (hc : c.Ok) (nb : Nat) (hk : c.k ≤ 1000) (hn : nb ≤ 1000) (rs : List RdM) (hlen : rs.length ≤ 1000) (hrs : RdsOk c nb rs) (t : Nat → Nat) (ht : BndF c t)
  (gs : Nat) (gr gc : Nat → Nat × Nat) (sc : Array Value) (uo : Option Addr) (ucp : Nat) (ro : Option Addr) (rcp : Nat) (hsc1 : sc[1]? = some (.int .i64 (c.m : Int))) (hsc5 : sc[5]? = some (.slice uo nb ucp)) (hsc6 : sc[6]? = some (.slice ro rs.length rcp))
  (v : Value) (F : HProp) (wb w : World) (hT : TabF wb) (hsm : Same wb w) (hK : Keeps wb F) (hv : RowI w v (intsV (lineI t c.k)))
  (hS : Sat w (pts gs (.cells sc TSpn (0, 0)) * (ownAt TRd 3 (.slice ro rs.length rcp) rs.length (rdE c.k nb gr gc rs) * (rdB c.k nb gr gc rs * F)))) :
  Calls Tryz.prog 120 #[.pointer (some ⟨gs, 0, none⟩), v] w fun e w' => ∃ gt gco, e = .returned (.tuple #[hdrV c.k gt, hdrV nb gco]) ∧ Same w w' ∧
   Sat w' (rowS TI gt c.k (redAll c rs (t, fun _ => 0)).1 * (rowS TI gco nb (redAll c rs (t, fun _ => 0)).2 * (pts gs (.cells sc TSpn (0, 0)) * (ownAt TRd 3 (.slice ro rs.length rcp) rs.length (rdE c.k nb gr gc rs) * (rdB c.k nb gr gc rs * F))))) := by
 have hb0 := al_below w (.cells #[.pointer (some ⟨gs, 0, none⟩)] TPsn)
 have HW0 := Lib.hid (And.intro ((Same.refl w).alloc (.cells #[.pointer (some ⟨gs, 0, none⟩)] TPsn)) (And.intro (hS.alloc (.cells #[.pointer (some ⟨gs, 0, none⟩)] TPsn)) (hv.below hb0)))
 have HSC := Lib.hid (And.intro hsc1 (And.intro hsc5 hsc6))
 have HMK := Lib.hid (fun W => run_mkI nb (by omega) W)
 obtain ⟨tis, htis, htiss⟩ := Option.map_eq_some_iff.1 (show (Tryz.prog.info? TIz).map (·.size) = some 1 from by kernel_rfl)
 have HCL := Lib.hid (fun v F W h1 h2 => clone_row c.k t hc.pos hk v F W h1 h2)
 clear hS hv hb0
 go_enter Tryz.func120, Tryz.ntmps120
 go_upto_region 1 with (fail)
 generalize w.alloc (.cells #[.pointer (some ⟨gs, 0, none⟩)] TPsn) = w1 at HW0 ⊢
 generalize w.heap.size = g2 at HW0 ⊢
 have d2 : w1.drew.cell? ⟨g2, 0, none⟩ = some (.pointer (some ⟨gs, 0, none⟩)) := by rw [cells_at HW0.out.2.1.drew.block]; rfl
 have d5 : w1.drew.cell? ⟨gs, 5, none⟩ = some (.slice uo nb ucp) := by rw [cells_at (HW0.out.2.1.drew.right).block]; exact HSC.out.2.1
 have hl2 : g2 < w1.drew.heap.size := World.block_lt_of_cell? _ _ d2
 have hls : gs < w1.drew.heap.size := World.block_lt_of_cell? _ _ d5
 have hS0 : Below w1.drew.heap.size w1.drew w1.drew := Below.refl _ _
 refine reg_begin (fun W => Below w1.drew.heap.size w1.drew W) (by kernel_rfl) ?_
 (apply reg_take 0 rfl rfl (by decide +kernel) rfl); (intro w' hw'; go_simp; rfl); exact hS0; simp only [zq1, zq2, zq3]
 refine reg_take 2 (v := .pointer (some ⟨gs, 0, none⟩)) rfl rfl (by decide +kernel) rfl (fun w' h => exec_load_cell rfl rfl Tryz.underlying172 rfl ((h.cell (p := ⟨g2, 0, none⟩) hl2).trans d2)) hS0 ?_; simp only [zq1, zq2, zq3]
 (apply reg_take 3 rfl rfl (by decide +kernel) rfl); (intro w' hw'; go_simp; rfl); exact hS0; simp only [zq1, zq2, zq3]
 (apply reg_take 4 rfl rfl (by decide +kernel) rfl); (intro w' hw'; go_simp; rfl); exact hS0; simp only [zq1, zq2, zq3]
 refine reg_take 5 (v := .slice uo nb ucp) rfl rfl (by decide +kernel) rfl (fun w' h => exec_load_cell rfl rfl Tryz.underlying36 rfl ((h.cell (p := ⟨gs, 5, none⟩) hls).trans d5)) hS0 ?_; simp only [zq1, zq2, zq3]
 (apply reg_take 6 rfl rfl (by decide +kernel) rfl); (intro w' hw'; go_simp; rfl); exact hS0; simp only [zq1, zq2, zq3]
 obtain ⟨G, hG⟩ : ∃ G, G = pts gs (.cells sc TSpn (0, 0)) * (ownAt TRd 3 (.slice ro rs.length rcp) rs.length (rdE c.k nb gr gc rs) * (rdB c.k nb gr gc rs * F)) := ⟨_, rfl⟩
 have HG := Lib.hid hG
 have HW1 := Lib.hid (And.intro HW0.out.1.drew (show Sat w1.drew (pts g2 (.cells #[.pointer (some ⟨gs, 0, none⟩)] TPsn (0, 0)) * G) from by rw [hG]; exact HW0.out.2.1.drew))
 clear hG
 apply reg_cutT4 (K := fun (gt gco : Nat × Nat) (g6 g7 : Nat) W => Same w W ∧ Sat W (pts g6 (.cells #[hdrV c.k gt] TIz (0, 0)) * (pts g7 (.cells #[hdrV nb gco] TIz (0, 0)) * (rowS TI gt c.k t * (rowS TI gco nb (fun _ => 0) * (pts g2 (.cells #[.pointer (some ⟨gs, 0, none⟩)] TPsn (0, 0)) * G))))))
 case h =>
  refine reg_makersR (fuel := 2) [(1, 12), (7, 18), (8, 6), (9, 7)] [1, 8, 9] (redA c.k nb t) (old w1.drew) (by decide +kernel) (by decide) ?_ (fun W X h1 h2 => h1.below_of h2) (Sat.old _) ?_ ?_
  ·intro p hp
   simp only [List.mem_cons, List.not_mem_nil, or_false] at hp
   rcases hp with rfl | rfl | rfl | rfl
   ·exact ⟨_, rfl, rfl⟩
   ·exact ⟨_, rfl, rfl⟩
   ·exact ⟨_, rfl, rfl⟩
   ·exact ⟨_, rfl, rfl⟩
  ·intro p hp o ho σ W X h1 h2
   simp only [List.mem_cons, List.not_mem_nil, or_false] at hp
   have hbW := h1.below_of h2
   rcases hp with rfl | rfl | rfl | rfl
   ·cases ho
    unfold Oper.wp
    rw [exec_callV1 rfl rfl (mk_eval (M := [(1, 12), (7, 18), (8, 6), (9, 7)]) (x := 11) (v := v) (by decide) rfl) cloneI_run]
    refine (HCL.out v (X * old w1.drew) W ((HW0.out.2.2).below ((Below.refl _ w1).drew.trans hbW)) h2).mono ?_
    rintro e W' ⟨g, rfl, h3, h4⟩
    exact ⟨_, rfl, h3, redA1.2 ⟨g, rfl, h4⟩⟩
   ·cases ho
    unfold Oper.wp
    rw [exec_makeJ rfl (mk_eval (M := [(1, 12), (7, 18), (8, 6), (9, 7)]) (x := 17) (v := .int .i64 (nb : Int)) (by decide) rfl) (mk_eval (M := [(1, 12), (7, 18), (8, 6), (9, 7)]) (x := 17) (v := .int .i64 (nb : Int)) (by decide) rfl) (HMK.out W)]
    exact ⟨_, rfl, (Same.refl W).alloc _, redA7.2 ⟨(W.heap.size, nb), rfl, zero_row nb _ W hn h2⟩⟩
   ·cases ho
    unfold Oper.wp
    rw [exec_allocS rfl (zeroIz W)]
    exact ⟨_, rfl, (Same.refl W).alloc _, (redAp (by decide) (by decide)).2 ⟨W.heap.size, rfl, h2.alloc _⟩⟩
   ·cases ho
    unfold Oper.wp
    rw [exec_allocS rfl (zeroIz W)]
    exact ⟨_, rfl, (Same.refl W).alloc _, (redAp (by decide) (by decide)).2 ⟨W.heap.size, rfl, h2.alloc _⟩⟩
  ·intro σ W hreq h1 h2
   obtain ⟨v1, e1⟩ := Option.isSome_iff_exists.1 (hreq 1 (by decide))
   obtain ⟨v8, e8⟩ := Option.isSome_iff_exists.1 (hreq 8 (by decide))
   obtain ⟨v9, e9⟩ := Option.isSome_iff_exists.1 (hreq 9 (by decide))
   cases e7 : σ 7 with
   | some v7 =>
    simp only [mkH, mkT, doneL, List.map_cons, List.map_nil, List.filter_cons, List.filter_nil, e1, e7, e8, e9, Option.isSome_some, if_true, Bool.not_true, Bool.false_eq_true, if_false, List.length_nil, zq1, zq2, zq3] at h2 ⊢
    have h3 := h2.perm (show _ = redA c.k nb t 1 v1 * (redA c.k nb t 7 v7 * (redA c.k nb t 8 v8 * (redA c.k nb t 9 v9 * old w1.drew))) by rw [star_emp]; ac_rfl)
    obtain ⟨gt, rfl, h4⟩ := redA1.1 h3
    obtain ⟨gco, rfl, h5⟩ := redA7.1 (h4.perm (show _ = redA c.k nb t 7 v7 * (rowS TI gt c.k t * (redA c.k nb t 8 v8 * (redA c.k nb t 9 v9 * old w1.drew))) by ac_rfl))
    obtain ⟨g6, rfl, h6⟩ := (redAp (by decide) (by decide)).1 (h5.perm (show _ = redA c.k nb t 8 v8 * (rowS TI gco nb (fun _ => 0) * (rowS TI gt c.k t * (redA c.k nb t 9 v9 * old w1.drew))) by ac_rfl))
    obtain ⟨g7, rfl, h7⟩ := (redAp (by decide) (by decide)).1 (h6.perm (show _ = redA c.k nb t 9 v9 * (pts g6 (.cells #[.slice none 0 0] TIz (0, 0)) * (rowS TI gco nb (fun _ => 0) * (rowS TI gt c.k t * old w1.drew))) by ac_rfl))
    have h8 := h7.perm (show _ = pts g6 (.cells #[.slice none 0 0] TIz (0, 0)) * (pts g7 (.cells #[.slice none 0 0] TIz (0, 0)) * (rowS TI gt c.k t * (rowS TI gco nb (fun _ => 0) * old w1.drew))) by ac_rfl)
    have h9 := h8.setCell (i := 0) (hdrV c.k gt)
    rw [show (#[.slice none 0 0] : Array Value).setIfInBounds 0 (hdrV c.k gt) = #[hdrV c.k gt] from rfl] at h9
    have hsm9 := h1.setCell ⟨g6, 0, none⟩ (hdrV c.k gt)
    have hb9 := hsm9.below_of (h9.perm (show _ = (pts g6 (.cells #[hdrV c.k gt] TIz (0, 0)) * (pts g7 (.cells #[.slice none 0 0] TIz (0, 0)) * (rowS TI gt c.k t * rowS TI gco nb (fun _ => 0)))) * old w1.drew by ac_rfl))
    refine reg_do 10 (W.setCell ⟨g6, 0, none⟩ (hdrV c.k gt)) rfl rfl (by decide +kernel) rfl (exec_store_cell rfl rfl rfl htis htiss rfl (cells_at h8.block 0) (thawed_at h8.block 0)) hb9 ?_
    have h10 := h9.perm (show _ = pts g7 (.cells #[.slice none 0 0] TIz (0, 0)) * (pts g6 (.cells #[hdrV c.k gt] TIz (0, 0)) * (rowS TI gt c.k t * (rowS TI gco nb (fun _ => 0) * old w1.drew))) by ac_rfl)
    have h11 := h10.setCell (i := 0) (hdrV nb gco)
    rw [show (#[.slice none 0 0] : Array Value).setIfInBounds 0 (hdrV nb gco) = #[hdrV nb gco] from rfl] at h11
    refine reg_do_last 11 ((W.setCell ⟨g6, 0, none⟩ (hdrV c.k gt)).setCell ⟨g7, 0, none⟩ (hdrV nb gco)) rfl rfl (by decide +kernel) rfl (exec_store_cell rfl rfl rfl htis htiss rfl (cells_at h10.block 0) (thawed_at h10.block 0)) ?_
    exact ⟨gt, gco, g6, g7, rfl, HW1.out.1.trans (hsm9.setCell _ _), ((h11.perm (show _ = (pts g6 (.cells #[hdrV c.k gt] TIz (0, 0)) * (pts g7 (.cells #[hdrV nb gco] TIz (0, 0)) * (rowS TI gt c.k t * rowS TI gco nb (fun _ => 0)))) * old w1.drew by ac_rfl)).of_all HW1.out.2).perm (by ac_rfl)⟩
   | none =>
    simp only [mkH, mkT, doneL, List.map_cons, List.map_nil, List.filter_cons, List.filter_nil, e1, e7, e8, e9, Option.isSome_some, Option.isSome_none, if_true, Bool.not_true, Bool.not_false, Bool.false_eq_true, if_false, List.length_cons, List.length_nil, zq1, zq2, zq3] at h2 ⊢
    have h3 := h2.perm (show _ = redA c.k nb t 1 v1 * (redA c.k nb t 8 v8 * (redA c.k nb t 9 v9 * old w1.drew)) by rw [star_emp, emp_star]; ac_rfl)
    obtain ⟨gt, rfl, h4⟩ := redA1.1 h3
    obtain ⟨g6, rfl, h6⟩ := (redAp (by decide) (by decide)).1 (h4.perm (show _ = redA c.k nb t 8 v8 * (rowS TI gt c.k t * (redA c.k nb t 9 v9 * old w1.drew)) by ac_rfl))
    obtain ⟨g7, rfl, h7⟩ := (redAp (by decide) (by decide)).1 (h6.perm (show _ = redA c.k nb t 9 v9 * (pts g6 (.cells #[.slice none 0 0] TIz (0, 0)) * (rowS TI gt c.k t * old w1.drew)) by ac_rfl))
    have h8 := h7.perm (show _ = pts g6 (.cells #[.slice none 0 0] TIz (0, 0)) * (pts g7 (.cells #[.slice none 0 0] TIz (0, 0)) * (rowS TI gt c.k t * old w1.drew)) by ac_rfl)
    refine reg_fork 7 10 (by decide +kernel) ?_ ?_
    ·have hz := zero_row nb _ W hn h8
     have hbz := (h1.alloc (.cells (zeroA nb) TI)).below_of (hz.perm (show _ = (rowS TI (W.heap.size, nb) nb (fun _ => 0) * (pts g6 (.cells #[.slice none 0 0] TIz (0, 0)) * (pts g7 (.cells #[.slice none 0 0] TIz (0, 0)) * rowS TI gt c.k t))) * old w1.drew by ac_rfl))
     refine rstep_run (hdrV nb (W.heap.size, nb)) (W.alloc (.cells (zeroA nb) TI)) rfl rfl (by decide +kernel) rfl (exec_makeJ rfl rfl rfl (HMK.out W)) hbz ?_
     simp only [zq1, zq2, zq3]
     have hsmz := h1.alloc (.cells (zeroA nb) TI)
     generalize W.alloc (.cells (zeroA nb) TI) = W2 at hz hsmz ⊢
     generalize ((W.heap.size, nb) : Nat × Nat) = gco at hz ⊢
     have h8 := hz.perm (show _ = pts g6 (.cells #[.slice none 0 0] TIz (0, 0)) * (pts g7 (.cells #[.slice none 0 0] TIz (0, 0)) * (rowS TI gt c.k t * (rowS TI gco nb (fun _ => 0) * old w1.drew))) by ac_rfl)
     have h9 := h8.setCell (i := 0) (hdrV c.k gt)
     rw [show (#[.slice none 0 0] : Array Value).setIfInBounds 0 (hdrV c.k gt) = #[hdrV c.k gt] from rfl] at h9
     have hsm9 := hsmz.setCell ⟨g6, 0, none⟩ (hdrV c.k gt)
     have hb9 := hsm9.below_of (h9.perm (show _ = (pts g6 (.cells #[hdrV c.k gt] TIz (0, 0)) * (pts g7 (.cells #[.slice none 0 0] TIz (0, 0)) * (rowS TI gt c.k t * rowS TI gco nb (fun _ => 0)))) * old w1.drew by ac_rfl))
     refine reg_do 10 (W2.setCell ⟨g6, 0, none⟩ (hdrV c.k gt)) rfl rfl (by decide +kernel) rfl (exec_store_cell rfl rfl rfl htis htiss rfl (cells_at h8.block 0) (thawed_at h8.block 0)) hb9 ?_
     have h10 := h9.perm (show _ = pts g7 (.cells #[.slice none 0 0] TIz (0, 0)) * (pts g6 (.cells #[hdrV c.k gt] TIz (0, 0)) * (rowS TI gt c.k t * (rowS TI gco nb (fun _ => 0) * old w1.drew))) by ac_rfl)
     have h11 := h10.setCell (i := 0) (hdrV nb gco)
     rw [show (#[.slice none 0 0] : Array Value).setIfInBounds 0 (hdrV nb gco) = #[hdrV nb gco] from rfl] at h11
     refine reg_do_last 11 ((W2.setCell ⟨g6, 0, none⟩ (hdrV c.k gt)).setCell ⟨g7, 0, none⟩ (hdrV nb gco)) rfl rfl (by decide +kernel) rfl (exec_store_cell rfl rfl rfl htis htiss rfl (cells_at h10.block 0) (thawed_at h10.block 0)) ?_
     exact ⟨gt, gco, g6, g7, rfl, HW1.out.1.trans (hsm9.setCell _ _), ((h11.perm (show _ = (pts g6 (.cells #[hdrV c.k gt] TIz (0, 0)) * (pts g7 (.cells #[hdrV nb gco] TIz (0, 0)) * (rowS TI gt c.k t * rowS TI gco nb (fun _ => 0)))) * old w1.drew by ac_rfl)).of_all HW1.out.2).perm (by ac_rfl)⟩
    ·have h9 := h8.setCell (i := 0) (hdrV c.k gt)
     rw [show (#[.slice none 0 0] : Array Value).setIfInBounds 0 (hdrV c.k gt) = #[hdrV c.k gt] from rfl] at h9
     have hsm9 := h1.setCell ⟨g6, 0, none⟩ (hdrV c.k gt)
     have hb9 := hsm9.below_of (h9.perm (show _ = (pts g6 (.cells #[hdrV c.k gt] TIz (0, 0)) * (pts g7 (.cells #[.slice none 0 0] TIz (0, 0)) * rowS TI gt c.k t)) * old w1.drew by ac_rfl))
     refine rstep_do (W.setCell ⟨g6, 0, none⟩ (hdrV c.k gt)) rfl rfl (by decide +kernel) rfl (exec_store_cell rfl rfl rfl htis htiss rfl (cells_at h8.block 0) (thawed_at h8.block 0)) hb9 ?_
     generalize W.setCell ⟨g6, 0, none⟩ (hdrV c.k gt) = W3 at h9 hsm9 hb9 ⊢
     have hz := zero_row nb _ W3 hn h9
     have hbz := (hsm9.alloc (.cells (zeroA nb) TI)).below_of (hz.perm (show _ = (rowS TI (W3.heap.size, nb) nb (fun _ => 0) * (pts g6 (.cells #[hdrV c.k gt] TIz (0, 0)) * (pts g7 (.cells #[.slice none 0 0] TIz (0, 0)) * rowS TI gt c.k t))) * old w1.drew by ac_rfl))
     refine reg_run 7 (hdrV nb (W3.heap.size, nb)) (W3.alloc (.cells (zeroA nb) TI)) rfl rfl (by decide +kernel) rfl (exec_makeJ rfl rfl rfl (HMK.out W3)) hbz ?_
     simp only [zq1, zq2, zq3]
     have hsmz := hsm9.alloc (.cells (zeroA nb) TI)
     generalize W3.alloc (.cells (zeroA nb) TI) = W4 at hz hsmz ⊢
     generalize ((W3.heap.size, nb) : Nat × Nat) = gco at hz ⊢
     have h10 := hz.perm (show _ = pts g7 (.cells #[.slice none 0 0] TIz (0, 0)) * (pts g6 (.cells #[hdrV c.k gt] TIz (0, 0)) * (rowS TI gt c.k t * (rowS TI gco nb (fun _ => 0) * old w1.drew))) by ac_rfl)
     have h11 := h10.setCell (i := 0) (hdrV nb gco)
     rw [show (#[.slice none 0 0] : Array Value).setIfInBounds 0 (hdrV nb gco) = #[hdrV nb gco] from rfl] at h11
     refine reg_do_last 11 (W4.setCell ⟨g7, 0, none⟩ (hdrV nb gco)) rfl rfl (by decide +kernel) rfl (exec_store_cell rfl rfl rfl htis htiss rfl (cells_at h10.block 0) (thawed_at h10.block 0)) ?_
     exact ⟨gt, gco, g6, g7, rfl, HW1.out.1.trans (hsmz.setCell _ _), ((h11.perm (show _ = (pts g6 (.cells #[hdrV c.k gt] TIz (0, 0)) * (pts g7 (.cells #[hdrV nb gco] TIz (0, 0)) * (rowS TI gt c.k t * rowS TI gco nb (fun _ => 0)))) * old w1.drew by ac_rfl)).of_all HW1.out.2).perm (by ac_rfl)⟩
 case k =>
  rintro gt gco g6 g7 w5 ⟨h1, h2⟩
  dsimp only
  rename_i Kc hKc
  refine hKc _ _ ?_
  rw [HG.out] at h2
  have HRS := Lib.hid hrs
  have HBN := Lib.hid (fun j : Nat => redAll_bnd hc (rs := rs.take j) (s := (t, fun _ => 0)) (nb := nb) (fun r hr => hrs r (List.mem_of_mem_take hr)) ht (fun i _ => Nat.two_pow_pos _))
  have HR1 := Lib.hid (fun r rc tt cf hr ht' hcf hrc gr' gc' X W (h1 : Same wb W) h2 => red1_any c hc nb hk hn r rc tt cf hr ht' hcf hrc g6 g2 g7 gs gt gco gr' gc' sc hsc1 (X * F) wb W hT h1 (hK.star X) h2)
  have HSM := Lib.hid hsm
  obtain ⟨V, hV⟩ : ∃ V, V = spVars g6 g2 g7 gs c.k nb gt gco sc := ⟨_, rfl⟩
  have HV := Lib.hid hV
  obtain ⟨n, hnl⟩ : ∃ n, n = rs.length := ⟨_, rfl⟩
  have HN := Lib.hid hnl
  rw [← hnl] at hlen hsc6 h2
  have H0 := Lib.hid (show Same w w5 ∧ Sat w5 (V * (rowS TI gt c.k (redAll c (rs.take 0) (t, fun _ => 0)).1 * (rowS TI gco nb (redAll c (rs.take 0) (t, fun _ => 0)).2 * (ownAt TRd 3 (.slice ro n rcp) n (rdE c.k nb gr gc rs) * (rdB c.k nb gr gc rs * F))))) from ⟨h1, h2.perm (by rw [hV]; unfold spVars; simp only [List.take_zero, redAll, List.foldl_nil]; ac_rfl)⟩)
  have v2 : w5.cell? ⟨g2, 0, none⟩ = some (.pointer (some ⟨gs, 0, none⟩)) := by
   have h3 := h2.perm (show _ = pts g2 (.cells #[.pointer (some ⟨gs, 0, none⟩)] TPsn (0, 0)) * (pts g6 (.cells #[hdrV c.k gt] TIz (0, 0)) * (pts g7 (.cells #[hdrV nb gco] TIz (0, 0)) * (rowS TI gt c.k t * (rowS TI gco nb (fun _ => 0) * (pts gs (.cells sc TSpn (0, 0)) * (ownAt TRd 3 (.slice ro n rcp) n (rdE c.k nb gr gc rs) * (rdB c.k nb gr gc rs * F))))))) by ac_rfl)
   rw [cells_at h3.block]; rfl
  have v6 : w5.cell? ⟨gs, 6, none⟩ = some (.slice ro n rcp) := by
   have h3 := h2.perm (show _ = pts gs (.cells sc TSpn (0, 0)) * (pts g2 (.cells #[.pointer (some ⟨gs, 0, none⟩)] TPsn (0, 0)) * (pts g6 (.cells #[hdrV c.k gt] TIz (0, 0)) * (pts g7 (.cells #[hdrV nb gco] TIz (0, 0)) * (rowS TI gt c.k t * (rowS TI gco nb (fun _ => 0) * (ownAt TRd 3 (.slice ro n rcp) n (rdE c.k nb gr gc rs) * (rdB c.k nb gr gc rs * F))))))) by ac_rfl)
   rw [cells_at h3.block]; exact hsc6
  have hcf : ∀ args w, (callFunc 145 args).run Tryz.prog w = .ok (.enter 145 args) w := fun args w => by kernel_rfl
  clear hKc h1 h2 hK hT hsm hrs ht hc hV hnl
  go_wp2
  go_loopw [25] (fun i wr => RdL w V c nb t rs gt gco (ownAt TRd 3 (.slice ro n rcp) n (rdE c.k nb gr gc rs) * (rdB c.k nb gr gc rs * F)) i wr) (fun i _ => n - (intOf i).toNat)
  case atStart => exact ⟨⟨0, Nat.zero_le _, rfl, H0.out.1, H0.out.2⟩⟩
  case round =>
   clear H0 v2 v6
   obtain ⟨k, hk, rfl, hsm, hst⟩ := hrel.st
   clear hrel
   rw [← HN.out] at hk
   have hk64 : (k : Int) ≤ 1000 := by omega
   have HS := Lib.hid (And.intro hsm hst)
   clear hsm hst
   by_cases hlt : k < n
   ·have hltd : decide ((k : Int) < (n : Int)) = true := decide_eq_true (by omega)
    obtain ⟨x, hx⟩ : ∃ x, rs[k]? = some x := ⟨_, List.getElem?_eq_getElem (by rw [← HN.out]; exact hlt)⟩
    have hxz : rs.zipIdx[k]? = some (x, k) := by rw [List.getElem?_zipIdx, hx]; simp
    have hf2 := HS.out.2.perm (show _ = ownAt TRd 3 (.slice ro n rcp) n (rdE c.k nb gr gc rs) * (V * (rowS TI gt c.k (redAll c (rs.take k) (t, fun _ => 0)).1 * (rowS TI gco nb (redAll c (rs.take k) (t, fun _ => 0)).2 * (rdB c.k nb gr gc rs * F)))) by ac_rfl)
    obtain ⟨gv, cv, e, hc⟩ := ownAt_cells hf2 (by omega)
    cases e
    have c0 := hc _ _ (flat_at (enc := fun q : RdM × Nat => (rdA q.1.row.1 c.k nb (gr q.2) (gc q.2)).toList) (k := 3) (fun _ => rfl) rs.zipIdx k _ hxz 0 _ rfl)
    have c1 := hc _ _ (flat_at (enc := fun q : RdM × Nat => (rdA q.1.row.1 c.k nb (gr q.2) (gc q.2)).toList) (k := 3) (fun _ => rfl) rs.zipIdx k _ hxz 1 _ rfl)
    have c2 := hc _ _ (flat_at (enc := fun q : RdM × Nat => (rdA q.1.row.1 c.k nb (gr q.2) (gc q.2)).toList) (k := 3) (fun _ => rfl) rs.zipIdx k _ hxz 2 _ rfl)
    rw [Nat.add_zero] at c0
    have HX := Lib.hid hx
    have HRX := Lib.hid (HRS.out x (List.mem_of_getElem? hx))
    have HSU := Lib.hid (redAll_succ c hx (t, fun _ => 0))
    clear hf2 hc hx hxz
    have HA3 := Lib.hid (And.intro (HS.out.1.alloc (.cells zRd TRd)) (HS.out.2.alloc (.cells zRd TRd)))
    go_upto_region 6 with (first
     | ((with_reducible (refine wpList_alloc_zero ?_ TRd ?_ _ (zeroRd _) ?_)); rfl; rfl; clear c0 c1 c2; generalize wr.alloc (.cells zRd TRd) = w3 at HA3 ⊢; generalize wr.heap.size = g8 at HA3 ⊢)
     | (refine wpList_store_blk (T := TRd) (old := zRd) (new := rdA x.row.1 c.k nb (gr k) (gc k)) rfl rfl rfl rfl HA3.out.2 (infoRd rfl) rfl (by simp [rdA, hdrV, Value.oneCell']) ?_; intro w4 h4))
    have HW4 := Lib.hid (And.intro (HA3.out.1.trans h4.out.1) h4.out.2)
    clear h4 HA3
    have q0 : w4.cell? ⟨g8, 0, none⟩ = some (.int .i64 (x.row.1 : Int)) := by rw [cells_at HW4.out.2.block]; rfl
    have q1 : w4.cell? ⟨g8, 1, none⟩ = some (hdrV c.k (gr k)) := by rw [cells_at HW4.out.2.block]; rfl
    have q2 : w4.cell? ⟨g8, 2, none⟩ = some (hdrV nb (gc k)) := by rw [cells_at HW4.out.2.block]; rfl
    obtain ⟨BH, hBH⟩ := rdB_pick (k := c.k) (nb := nb) (gr := gr) (gc := gc) HX.out
    have HPK := Lib.hid hBH
    clear hBH
    have HC := Lib.hid (HR1.out x.row x.coef (redAll c (rs.take k) (t, fun _ => 0)).1 (redAll c (rs.take k) (t, fun _ => 0)).2 HRX.out.1 (HBN.out k).1 (HBN.out k).2 HRX.out.2 (gr k) (gc k) (pts g8 (.cells (rdA x.row.1 c.k nb (gr k) (gc k)) TRd (0, 0)) * (ownAt TRd 3 (.slice (some ⟨gv, 0, none⟩) n rcp) n (rdE c.k nb gr gc rs) * BH)) w4 (HSM.out.trans HW4.out.1) (HW4.out.2.perm (by rw [HV.out, HPK.out]; ac_rfl)))
    go_wp2_with (go_at_call 145; refine HC.out.mono ?_; rintro e w6 ⟨rfl, h7, h8⟩; have HW6 := Lib.hid (And.intro (HW4.out.1.trans h7) h8); clear h7 h8)
    refine ⟨⟨k + 1, by rw [← HN.out]; omega, by push_cast; rfl, HW6.out.1, ?_⟩, by simp only [intOf]; omega⟩
    rw [HSU.out, HV.out, HPK.out]
    refine (HW6.out.2.perm (show _ = pts g8 (.cells (rdA x.row.1 c.k nb (gr k) (gc k)) TRd (0, 0)) * _ from ?_)).right
    ac_rfl
   ·have hke : k = n := by omega
    subst hke
    have hltd : decide ((k : Int) < (k : Int)) = false := decide_eq_false (by omega)
    have HE := Lib.hid (show Same w wr ∧ Sat wr (pts g6 (.cells #[hdrV c.k gt] TIz (0, 0)) * (pts g7 (.cells #[hdrV nb gco] TIz (0, 0)) * (pts g2 (.cells #[.pointer (some ⟨gs, 0, none⟩)] TPsn (0, 0)) * (rowS TI gt c.k (redAll c rs (t, fun _ => 0)).1 * (rowS TI gco nb (redAll c rs (t, fun _ => 0)).2 * (pts gs (.cells sc TSpn (0, 0)) * (ownAt TRd 3 (.slice ro rs.length rcp) rs.length (rdE c.k nb gr gc rs) * (rdB c.k nb gr gc rs * F)))))))) from ⟨HS.out.1, by
     have h := HS.out.2
     rw [HN.out, List.take_length, HV.out] at h
     exact h.perm (by unfold spVars; ac_rfl)⟩)
    clear HS
    have v6 : wr.cell? ⟨g6, 0, none⟩ = some (hdrV c.k gt) := by rw [cells_at HE.out.2.block]; rfl
    have v7 : wr.cell? ⟨g7, 0, none⟩ = some (hdrV nb gco) := by rw [cells_at HE.out.2.right.block]; rfl
    go_wp2
    go_quiet (fail)
    rename_i nq
    go_wp2
    go_ret2
    have hd := below_drewN (Below.refl wr.heap.size wr) nq
    exact ⟨gt, gco, rfl, HE.out.1.below hd, (((HE.out.2.below hd).right).right).right⟩
end Go.Proofs.YteikbikopgabjaaGreatDoor
