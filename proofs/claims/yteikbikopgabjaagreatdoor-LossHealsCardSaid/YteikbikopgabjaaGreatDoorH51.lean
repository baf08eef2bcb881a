import Derived.Test.YteikbikopgabjaaGreatDoorH50
import Derived.WalkIn
/- Part 51 of a proof; the last part says what is proved. -/
section
namespace Go.Proofs.YteikbikopgabjaaGreatDoor
open Go.RowKit Go.Sha Go.Sl Go.GF Go.Shelf
attribute [local go_sem] Oper.semAt_some
abbrev TBs : TypeId := 131
set_option maxRecDepth 20000 in
theorem clone8_any (bv : Value) (l : List UInt8) (h0 : 0 < l.length) (hl : l.length ≤ 1000) (w : World) (hr : RowI w bv (b8 l)) :
  Calls Tryz.prog 128 #[bv] w fun e w' => ∃ v, e = .returned v ∧ Same w w' ∧ Sat w' (own8 v l * old w) := by
 have HRR := Lib.hid (fun W (h : Below w.heap.size w W) => hr.below h)
 have H0 := Lib.hid (fun t => show t = T8 → Sat (w.alloc (.cells #[] t)) (own8 (.slice (some ⟨w.heap.size, 0, none⟩) 0 0) [] * old w) from fun e => by
  subst e
  exact ownAt_iff.2 (.inr ⟨_, _, _, ⟨rfl, Nat.le_refl _, by unfold maxLen; omega, by simp, by simp [b8], by simp [b8]⟩, (Sat.old w).alloc _⟩))
 have HBA := Lib.hid (fun o => And.intro ((Same.refl w).alloc o) (al_below w o))
 obtain ⟨ab, cb, rfl, -, -, h4⟩ := id hr
 obtain ⟨b, off, rfl, -, -⟩ := h4 (by rw [b8_len]; exact h0)
 rw [b8_len] at *
 have HL := Lib.hid hl
 have hq : ∀ w, (binOp .eql TBs (.slice (some ⟨b, off, none⟩) l.length cb) (.slice none 0 0)).run Tryz.prog w = .ok (.bool false) w := fun w => Lib.run_eql_slice_nil w _ _ _ l.length cb 0 0 Tryz.underlying131
 clear hr h4 h0 hl
 go_enter Tryz.func128, Tryz.ntmps128
 go_wp2_with (at_builtin; refine wpList_app8 rfl _ _ rfl rfl rfl (H0.out _ rfl) (HRR.out _ (HBA.out _).2) (by have := HL.out; simp; omega) ?_; intro v1 w1 h1 h2; rw [List.nil_append] at h2; have H1 := Lib.hid (And.intro ((HBA.out _).1.trans h1) h2); clear h1 h2)
 go_ret
 exact ⟨_, rfl, H1.out.1, H1.out.2⟩
def chunkB (b0 b1 b off cap : Nat) : HProp := pts b0 (.cells #[.slice (some ⟨b, off, none⟩) 64 cap] TBs (0, 0)) * pts b1 (.cells #[.int .i64 64] TI (0, 0))
set_option maxRecDepth 20000 in
theorem chunk_any (b off cap : Nat) (X : HProp) (w : World) (hX : Sat w X) :
  Calls Tryz.prog 129 #[.slice (some ⟨b, off, none⟩) 64 cap, .int .i64 64] w fun e w' => ∃ b0 b1, e = .returned (.func (.func 149) #[] #[.pointer (some ⟨b0, 0, none⟩), .pointer (some ⟨b1, 0, none⟩)]) ∧ Same w w' ∧ Sat w' (chunkB b0 b1 b off cap * X) := by
 have h := (hX.alloc (.cells #[.slice (some ⟨b, off, none⟩) 64 cap] TBs)).alloc (.cells #[.int .i64 64] TI)
 rw [show (w.alloc (.cells #[.slice (some ⟨b, off, none⟩) 64 cap] TBs)).heap.size = w.heap.size + 1 by simp] at h
 have H0 := Lib.hid (And.intro (((Same.refl w).alloc (.cells #[.slice (some ⟨b, off, none⟩) 64 cap] TBs)).alloc (.cells #[.int .i64 64] TI)) h)
 clear h hX
 go_enter Tryz.func129, Tryz.ntmps129
 go_upto_region 1 with (fail)
 generalize (w.alloc (.cells #[.slice (some ⟨b, off, none⟩) 64 cap] TBs)).alloc (.cells #[.int .i64 64] TI) = w1 at H0 ⊢
 generalize w.heap.size + 1 = b1 at H0 ⊢
 generalize w.heap.size = b0 at H0 ⊢
 have c1 : w1.cell? ⟨b1, 0, none⟩ = some (.int .i64 64) := by rw [cells_at H0.out.2.block]; rfl
 go_wp2
 go_ret
 exact ⟨b0, b1, rfl, H0.out.1, H0.out.2.perm (by unfold chunkB; ac_rfl)⟩
structure ChSt (w0 : World) (J : Nat → HProp) (B : HProp) (i : Value) (wr : World) : Prop where
 st : ∃ (k : Nat) (z : Int), (k = 0 ∧ z = 0 ∨ k = 1 ∧ z = 64) ∧ i = .int .i64 z ∧ Same w0 wr ∧ Sat wr (J k * B)
theorem chunk_cells {w : World} {b0 b1 b off cap : Nat} {X : HProp} (h : Sat w (chunkB b0 b1 b off cap * X)) : w.cell? ⟨b0, 0, none⟩ = some (.slice (some ⟨b, off, none⟩) 64 cap) ∧ w.cell? ⟨b1, 0, none⟩ = some (.int .i64 64) := by
 unfold chunkB at h
 rw [star_assoc] at h
 have h1 := cells_at h.block
 have h2 := cells_at h.right.block
 exact ⟨h1 0, h2 0⟩
set_option maxRecDepth 100000 in
set_option maxHeartbeats 1000000 in
theorem chunk_seq (F : Fence) (hF : Free F Tryz.prog) (n b0 b1 b off cap : Nat) (hcap : 64 ≤ cap) (w0 : World) :
  SeqSat F n Tryz.prog 149 #[.pointer (some ⟨b0, 0, none⟩), .pointer (some ⟨b1, 0, none⟩)] (fun _ : Unit => #[.slice (some ⟨b, off, none⟩) 64 64]) [()] (chunkB b0 b1 b off cap) w0 := by
 intro l J Jx W hY hsm hs
 have hdd : ∀ k : Nat, (F.depth.isSome = true → 1 ≤ k) := hF.ask
 have hro := hF.round
 have hfn := hF.fn
 have HY := Lib.hid hY
 have HST := Lib.hid (show ChSt w0 J (chunkB b0 b1 b off cap) (.int .i64 0) W from ⟨⟨0, 0, .inl ⟨rfl, rfl⟩, rfl, hsm, hs⟩⟩)
 have hci : (64 : Int) ≤ (cap : Int) := by omega
 clear hY hsm hs
 refine callsIn_of_wp Tryz.func149 rfl (hF.fn _) ?_ hF.round
 simp only [Tryz.ntmps149, List.size_toArray, List.length_cons, List.length_nil, Nat.reduceAdd, Nat.reduceSub, Array.replicate_succ, Array.replicate_zero, List.push_toArray, List.append_toArray, List.nil_append, List.cons_append]
 gi_wp2
 gi_loopw [4] (fun v wr => ChSt w0 J (chunkB b0 b1 b off cap) v wr) (fun v _ => 64 - (intOf v).toNat)
 case atStart => exact HST.out
 case round =>
  obtain ⟨k, z, hk, rfl, hsm, hs⟩ := hrel.st
  clear hrel HST
  have H1 := Lib.hid (And.intro hsm hs)
  obtain ⟨c0, c1⟩ := chunk_cells (hs.perm (star_comm _ _))
  clear hsm hs
  rcases hk with ⟨rfl, rfl⟩ | ⟨rfl, rfl⟩
  ·have hS0 : wr.drew.cell? ⟨b0, 0, none⟩ = some (.slice (some ⟨b, off, none⟩) 64 cap) ∧ wr.drew.cell? ⟨b1, 0, none⟩ = some (.int .i64 64) := ⟨c0, c1⟩
   gi_wp2
   refine regi_begin (fun w' => w'.cell? ⟨b0, 0, none⟩ = some (.slice (some ⟨b, off, none⟩) 64 cap) ∧ w'.cell? ⟨b1, 0, none⟩ = some (.int .i64 64)) (by kernel_rfl) ?_
   (apply regi_take hF 0 rfl rfl (by decide +kernel) rfl); (rintro w' ⟨h1, h2⟩; go_simp; rfl); exact hS0; simp only [zq1, zq2, zq3]
   (apply regi_take hF 1 rfl rfl (by decide +kernel) rfl); (rintro w' ⟨h1, h2⟩; go_simp; rfl); exact hS0; simp only [zq1, zq2, zq3]
   (apply regi_take hF 2 rfl rfl (by decide +kernel) rfl); (rintro w' ⟨h1, h2⟩; go_simp; rfl); exact hS0; simp only [zq1, zq2, zq3]
   refine regi_take hF 3 (v := .slice (some ⟨b, off, none⟩) 64 cap) rfl rfl (by decide +kernel) rfl (fun w' _ => exec_sl_run rfl rfl ((run_sl_lo Tryz.underlying131 info_u8 b off 64 cap 0 (by omega) w').trans (by rw [if_neg (by omega)]; rfl))) hS0 ?_; simp only [zq1, zq2, zq3]
   (apply regi_take hF 4 rfl rfl (by decide +kernel) rfl); (rintro w' ⟨h1, h2⟩; go_simp; rfl); exact hS0; simp only [zq1, zq2, zq3]
   (apply regi_take hF 5 rfl rfl (by decide +kernel) rfl); (rintro w' ⟨h1, h2⟩; go_simp; rfl); exact hS0; simp only [zq1, zq2, zq3]
   (apply regi_take hF 6 rfl rfl (by decide +kernel) rfl); (rintro w' ⟨h1, h2⟩; go_simp; rfl); exact hS0; simp only [zq1, zq2, zq3]
   refine regi_done (by decide +kernel) ?_
   obtain ⟨fn, tmps, assign, body, hy, hR⟩ := HY.out 0 () wr.drew (lift True) rfl H1.out.1.drew ((Sat.lift.2 ⟨trivial, H1.out.2.drew⟩ : Sat wr.drew (lift True * (J 0 * chunkB b0 b1 b off cap))).perm (by ac_rfl))
   have d0 : wr.drew.cell? ⟨b0, 0, none⟩ = some (.slice (some ⟨b, off, none⟩) 64 cap) := c0
   have d1 : wr.drew.cell? ⟨b1, 0, none⟩ = some (.int .i64 64) := c1
   clear hS0 c0 c1
   generalize wr.drew = wd at hy hR d0 d1 ⊢
   gi_wp2_with ((try refine ⟨hdd _, ?_⟩); refine hR.mono ?_; clear hR; rintro e W2 (⟨rfl, h3, h4⟩ | ⟨rfl, h3, h4⟩); have e1 := (chunk_cells (h4.perm (show _ = chunkB b0 b1 b off cap * (_ * lift True) by ac_rfl))).2; clear d0 d1 hy)
   ·refine ⟨⟨1, 64, .inr ⟨rfl, rfl⟩, rfl, h3, (Sat.lift.1 (h4.perm (show _ = lift True * (J 1 * chunkB b0 b1 b off cap) by ac_rfl))).2⟩, ?_⟩
    simp [intOf]
   ·refine bodyPost_ret (results_none rfl _ _ _) rfl ?_
    exact ⟨⟨_, rfl⟩, .inr ⟨h3, (Sat.lift.1 (h4.perm (show _ = lift True * (Jx * chunkB b0 b1 b off cap) by ac_rfl))).2⟩⟩
  ·gi_wp2
   go_end0
   exact ⟨⟨_, rfl⟩, .inl H1.out⟩
end Go.Proofs.YteikbikopgabjaaGreatDoor
end
section
namespace Go.Proofs.YteikbikopgabjaaGreatDoor
open Go.RowKit Go.Sha Go.Sl Go.GF Go.Shelf
attribute [local go_sem high] o_xor o_and o_or o_add
attribute [local go_sem] Oper.semAt_some
def TabS (w : World) : Prop := ∀ j, j < 8 → w.cell? ⟨0, j, none⟩ = some (.int .u32 ((st8 startM j : Nat) : Int))
theorem TabS.below {w w' : World} (h : TabS w) (hb : Below w.heap.size w w') : TabS w' := fun j hj => (hb.cell (World.block_lt_of_cell? _ _ (h j hj))).trans (h j hj)
theorem load_start {w : World} (h : TabS w) : (loadVar TV ⟨0, 0, none⟩).run Tryz.prog w = .ok (.agg (arr 8 (st8 startM))) w := by
 have := run_loadVar_mid (P := Tryz.prog) w 0 0 TV (arr 8 (st8 startM)).toList _ (fun j v hv => by
  rw [Array.getElem?_toList] at hv
  have hj : j < 8 := by have := (Array.getElem?_eq_some_iff.1 hv).1; rwa [arr_size] at this
  rw [arr_at _ _ hj] at hv
  rw [Nat.zero_add, h j hj]; exact hv) Tryz.underlying215 rfl (by rw [Array.length_toList, arr_size]; kernel_rfl)
 rwa [Array.toArray_toList] at this
section
variable {F : Fence} {n : Nat} {ops : Array Oper} {rest : List Oper} {o : Oper} {a : Act} {w : World} {Q : Exit → Act → World → Prop}
theorem wpListIn_load_V {g : Nat} {c : Array Value} (hb : w.heap[g]? = some (.cells c TV (0, 0))) (hc : c.size = 8) (hg : o.guard = none) (x : Operand) (ho : o.op = .load TV x) (hx : a.eval x = .pointer (some ⟨g, 0, none⟩))
  (k : wpListIn F n Tryz.prog ops Q rest (a.put o.dst (.agg c)) w) : wpListIn F n Tryz.prog ops Q (o :: rest) a w := by
 have hr : (execOp a.eval o).run Tryz.prog w = .ok (.value (.agg c)) w := exec_load_mid ho hx (run_loadVar_row (P := Tryz.prog) w g TV TV c (0, 0) _ hb Tryz.underlying215 rfl (infoV hc))
 refine wpListIn_plain hg fun K hK => ?_
 unfold Oper.wpIn
 refine ⟨by simp [Oper.about, ho], ?_⟩
 rw [Oper.semAt_plain F _ _ (by rw [ho]; intro c hc'; cases hc'), hr, Oper.uponIn_value]
 exact hK _ _ k
theorem wpListIn_store_V {x y : Operand} {b : Nat} {old new : Array Value} {X : HProp} (hg : o.guard = none) (ho : o.op = .store TV x y) (hx : a.eval x = .pointer (some ⟨b, 0, none⟩)) (hy : a.eval y = .agg new) (hS : Sat w (pts b (.cells old TV (0, 0)) * X))
  (hn : new.size = 8) (hs : new.size = old.size) (h1 : ∀ v ∈ new.toList, v.oneCell' = true)
  (k : ∀ w', Hid (Same w w' ∧ Sat w' (pts b (.cells new TV (0, 0)) * X)) → wpListIn F n Tryz.prog ops Q rest (a.put o.dst undef) w') : wpListIn F n Tryz.prog ops Q (o :: rest) a w := by
 obtain ⟨w', hr, h2, h3⟩ := exec_store_blk (P := Tryz.prog) ho hx hy hS (infoV hn) hs h1
 refine wpListIn_plain hg fun K hK => ?_
 unfold Oper.wpIn
 refine ⟨by simp [Oper.about, ho], ?_⟩
 rw [Oper.semAt_plain F _ _ (by rw [ho]; intro c hc'; cases hc'), hr, Oper.uponIn_skip]
 exact hK _ _ (k w' ⟨h2, h3⟩)
end
theorem wpIn_rangeFunc_one {α : Type} {F : Fence} {n : Nat} {P : Program} {g : Operand} {t1 p1 : Tmp} {u : α → Value} {assign body : Code} {Q : Exit → Act → World → Prop} {a : Act} {w : World}
  (hro : F.round = none) (h1 : 1 ≤ n) {gf : Nat} {lb : Array Value} (hg : a.eval g = .func (.func gf) #[] lb) (hFg : F.fn gf) (eg : ∀ args w, (callFunc gf args).run P w = .ok (.enter gf args) w)
  {xs : List α} {Bx : HProp} {w0 : World} (hseq : SeqSat F (n - 1) P gf lb (fun x => #[u x]) xs Bx w0)
  (R : Nat → HProp) (Rx : Code → HProp) (hsm : Same w0 w) (h0 : Sat w (R 0 * Bx))
  (hassign : ∀ (l : Nat) (x : α) (W : World) (K : Act → World → Prop), K { tmps := (a.tmps.setIfInBounds t1 (u x)).setIfInBounds p1 (u x), defers := [] } W → assign.wpIn (F.inRound l) (n - 1 - 1) P (Exit.then K (fun _ _ _ => False)) { tmps := a.tmps.setIfInBounds t1 (u x), defers := [] } W)
  (hbody : ∀ (l i : Nat) (x : α) (G : HProp) (W : World), xs[i]? = some x → Same w0 W → Sat W (R i * G) → body.wpIn (F.inRound l) (n - 1 - 1) P (satPost w0 (R (i + 1)) Rx G) { tmps := (a.tmps.setIfInBounds t1 (u x)).setIfInBounds p1 (u x), defers := [] } W)
  (hdone : ∀ (D : Nat) (W : World), Same w0 W → Sat W (R xs.length * (pts D (.deferred (some [])) * Bx)) → Q .normal { a with defers := { target := .collected D, args := #[] } :: a.defers } W)
  (hstop : ∀ (D : Nat) (c : Code) (W : World), Same w0 W → Sat W (Rx c * (pts D (.deferred (some [])) * Bx)) → c.wpIn F n P Q { a with defers := { target := .collected D, args := #[] } :: a.defers } W) :
  (Code.rangeFunc g #[t1] assign body).wpIn F n P Q a w :=
 wpIn_rangeFunc_sat hro h1 hg hFg eg hseq (fun _ => rfl) R Rx hsm h0 (fun x => { tmps := (a.tmps.setIfInBounds t1 (u x)).setIfInBounds p1 (u x), defers := [] }) (fun l x W K hK => by
  have h := hassign l x W K hK
  simpa using h) hbody hdone hstop
def suR (g6 : Nat) (A A' : Array Value) (X : HProp) (i : Nat) : HProp := pts g6 (.cells (if i = 0 then A else A') TV (0, 0)) * X
structure Q1S (w : World) (l : List UInt8) (G : HProp) (v : Value) (wr : World) : Prop where
 st : ∃ k : Nat, k ≤ 20 ∧ Same w wr ∧ Sat wr (own8 v (l ++ [128] ++ List.replicate k 0) * G)
structure Q2S (w : World) (m : List UInt8) (G : HProp) (v iv : Value) (wr : World) : Prop where
 st : ∃ i : Nat, i ≤ 8 ∧ iv = .int .i64 (i : Int) ∧ Same w wr ∧ Sat wr (own8 v (m ++ len8 i) * G)
set_option maxRecDepth 100000 in
set_option maxHeartbeats 8000000 in
theorem dsum_any (bv : Value) (l : List UInt8) (hl : l.length = 35) (w : World) (hr : RowI w bv (b8 l)) (hD : TabD w) (hS : TabS w) :
  Calls Tryz.prog 102 #[bv] w fun e w' => e = .returned (.agg (arrK .u8 32 (Go.Sha.sumN l))) ∧ Below w.heap.size w w' := by
 have HTD := Lib.hid (fun W (hb : Below w.heap.size w W) => hD.below hb)
 have HTS := Lib.hid (fun W (hb : Below w.heap.size w W) => hS.below hb)
 have HCL := Lib.hid (fun W (hb : Below w.heap.size w W) => clone8_any bv l (by omega) (by omega) W (hr.below hb))
 have HML := Lib.hid (show ∀ k, (l ++ [128] ++ List.replicate k (0 : UInt8)).length = 36 + k from fun k => by simp; omega)
 have HPL := Lib.hid (show padL l = l ++ [128] ++ List.replicate 20 0 ++ len8 8 by rw [len8_all]; rfl)
 have HPN := Lib.hid (padL_len hl)
 have HSL := Lib.hid (sumS_lt l)
 have HSM := Lib.hid (show sumS l = st8 (blockM startM (byN (padL l))) from rfl)
 obtain ⟨ab, cb, rfl, -⟩ := id hr
 rw [b8_len] at *
 have HL := Lib.hid hl
 rw [hl] at HCL ⊢
 have HW0 := Lib.hid (And.intro ((Same.refl w).alloc (.cells zB TB)) ((Sat.old w).alloc (.cells zB TB)))
 have HB0 := Lib.hid (al_below w (.cells zB TB))
 clear hr hl hD hS
 refine (callsIn_wide (n := 6)).1 (callsIn_of_wp_marks Tryz.func102 rfl trivial (wpIn_wide.2 ?_) rfl)
 simp only [Tryz.ntmps102, List.size_toArray, List.length_cons, List.length_nil, Nat.reduceAdd, Nat.reduceSub, Array.replicate_succ, Array.replicate_zero, List.push_toArray, List.append_toArray, List.nil_append, List.cons_append]
 go_upto_region 1 with ((with_reducible (refine wpList_alloc_zero ?_ TB ?_ _ (zeroB _) ?_)); rfl; rfl)
 generalize w.alloc (.cells zB TB) = w1 at HW0 HB0 ⊢
 obtain ⟨g2, hg2⟩ : ∃ g, g = w.heap.size := ⟨_, rfl⟩
 rw [← hg2] at HW0 ⊢
 clear hg2
 obtain ⟨G, hG⟩ : ∃ G, G = pts g2 (.cells zB TB (0, 0)) * old w := ⟨_, rfl⟩
 have HG := Lib.hid hG
 rw [← hG] at HW0
 clear hG
 go_wp2_with first
  | (go_at_call 128; refine (HCL.out w1 HB0.out).mono ?_; rintro e w2 ⟨v2, rfl, h2, h3⟩; have H1 := Lib.hid (And.intro (HW0.out.1.trans h2) (h3.of_all HW0.out.2)); clear h2 h3)
  | (at_builtin; refine wpList_ap8 (z := 128) rfl _ _ rfl rfl rfl rfl H1.out.2 (by rw [HL.out]; omega) ?_; intro v3 w3 h3 h4; have H2 := Lib.hid (And.intro (H1.out.1.trans h3) h4); clear h3 h4)
 go_loopw [3] (fun v wr => Q1S w l G v wr) (fun v _ => match v with | .slice _ n _ => 56 - n | _ => 0)
 case atStart => exact ⟨⟨0, by omega, H2.out.1, by rw [List.replicate_zero, List.append_nil]; exact H2.out.2⟩⟩
 case round =>
  clear H2 H1 HW0 HB0
  obtain ⟨k, hk, hsm, hst⟩ := hrel.st
  clear hrel
  have HS := Lib.hid (And.intro hsm hst)
  clear hsm hst
  have HMK := Lib.hid (HML.out k)
  by_cases hk20 : k < 20
  ·have hrm : (((36 + k : Nat) : Int) % 64 != 56) = true := by
    have : ((36 + k : Nat) : Int) % 64 = ((36 + k : Nat) : Int) := Int.emod_eq_of_lt (by omega) (by omega)
    rw [this]; simp; omega
   have HK := Lib.hid hk20
   clear hk20 hk
   generalize hq : 36 + k = q at *
   have HQ := Lib.hid hq
   clear hq
   go_wp2_with first
    | ((with_reducible (refine wpList_len8 ?_ (.tmp 14) ?_ ?_ HS.out.2 HMK.out ?_)); rfl; rfl; rfl)
    | (at_builtin; refine wpList_ap8 (z := 0) rfl _ _ rfl rfl rfl rfl HS.out.2 (by rw [HMK.out]; have := HQ.out; have := HK.out; omega) ?_; intro v3 w3 h3 h4)
   have hq := HQ.out
   have hK := HK.out
   have HE := Lib.hid (show Same w w3 ∧ Sat w3 (own8 v3 (l ++ [128] ++ List.replicate (k + 1) 0) * G) from ⟨HS.out.1.trans h3, by rw [List.replicate_succ', ← List.append_assoc]; exact h4⟩)
   clear h3 h4 HQ HK
   go_roundw
   case rel => exact ⟨⟨k + 1, by omega, HE.out⟩⟩
   case measure =>
    obtain ⟨ao, cp, rfl⟩ := own8_shape HS.out.2
    obtain ⟨ap, cq, rfl⟩ := own8_shape HE.out.2
    have := HL.out
    simp
    omega
  ·have : k = 20 := by omega
   subst this
   clear hk hk20
   have hrm : (((56 : Nat) : Int) % 64 != 56) = false := by decide
   generalize hm : l ++ [128] ++ List.replicate 20 (0 : UInt8) = m at *
   have hm2 : m.length = 56 := by rw [← hm]; exact HML.out 20
   have HM2 := Lib.hid hm2
   clear hm hm2 HML HMK
   go_wp2_with first
    | ((with_reducible (refine wpList_len8 ?_ (.tmp 14) ?_ ?_ HS.out.2 HM2.out ?_)); rfl; rfl; rfl)
   go_loopw [3, 25] (fun v iv wr => Q2S w m G v iv wr) (fun _ iv _ => 8 - (intOf iv).toNat)
   case atStart => exact ⟨⟨0, by omega, rfl, HS.out.1, by rw [show len8 0 = [] from rfl, List.append_nil]; exact HS.out.2⟩⟩
   case round =>
    clear HS
    obtain ⟨i, hi, rfl, hsm, hst⟩ := hrel.st
    clear hrel
    have HS := Lib.hid (And.intro hsm hst)
    clear hsm hst
    have HI := Lib.hid hi
    by_cases hlt : i < 8
    ·obtain ⟨sh, hsh, hsn⟩ : ∃ sh : Nat, (56 : Int) - 8 * (i : Int) = (sh : Int) ∧ sh = 56 - 8 * i := ⟨56 - 8 * i, by omega, rfl⟩
     have hsh2 : sh ≤ 62 := by omega
     have hwi : IntKind.i64.wrap ((i : Int) + 1) = (i : Int) + 1 := IntWalk.i64_in _ (by omega)
     go_wp2_with first
      | (at_builtin; refine wpList_ap8 (z := UInt8.ofNat (280 >>> (56 - 8 * i))) rfl _ _ rfl (by rw [UInt8.toNat_ofNat', Nat.shiftRight_eq_div_pow]; push_cast; rfl) rfl rfl HS.out.2 (by rw [List.length_append, HM2.out, len8_len]; have := HI.out; omega) ?_; intro v3 w3 h3 h4)
     have HE := Lib.hid (show Same w w3 ∧ Sat w3 (own8 v3 (m ++ len8 (i + 1)) * G) from ⟨HS.out.1.trans h3, by rw [len8_succ, ← List.append_assoc]; exact h4⟩)
     clear h3 h4
     go_roundw
     case rel => exact ⟨⟨i + 1, by omega, by push_cast; rfl, HE.out⟩⟩
     case measure => show 8 - ((i : Int) + 1).toNat < 8 - (i : Int).toNat; omega
    ·have : i = 8 := by omega
     subst this
     rw [← HPL.out] at HS
     obtain ⟨b, cap, cur, rfl, hcap, -, -, -, -⟩ := own8_iff (by rw [HPN.out]; omega) HS.out.2
     rw [HPN.out] at HS hcap ⊢
     have HBW := Lib.hid (fun W X (h1 : Same w W) (h2 : Sat W (X * G)) => show Below w.heap.size w W by
      rw [HG.out] at h2
      exact h1.below_of (h2.perm (show _ = (X * pts g2 (.cells zB TB (0, 0))) * old w by ac_rfl)))
     have hts := HTS.out wr (HBW.out wr _ HS.out.1 HS.out.2)
     have HLS := Lib.hid (load_start hts)
     have HCM := Lib.hid (fun W (hb : Below w.heap.size w W) hby => compress_any startM startM_ok (byN (padL l)) (byN_lt _) b 0 64 (Nat.le_refl _) W hby (HTD.out W hb))
     rw [← HSM.out] at HCM
     have HAA := Lib.hid (And.intro (And.intro (arr_size 8 (st8 startM)) (arr_one 8 (st8 startM))) (And.intro (arr_size 8 (sumS l)) (arr_one 8 (sumS l))))
     have HAT := Lib.hid (fun j (hj : j < 8) => arr_at 8 (sumS l) hj)
     generalize arr 8 (st8 startM) = A at HLS HCM HAA
     generalize arr 8 (sumS l) = A' at HCM HAA HAT
     clear hts HI hi
     go_upto_region 10 with (fail)
     all_goals try contradiction
     refine wp_region_lit ?_
     refine wpList_runG (v := .agg A) rfl (exec_load_mid rfl rfl HLS.out) ?_; simp only [Act.put, zq1, zq2, zq3]
     have HA6 := Lib.hid (And.intro (HS.out.1.alloc (.cells zV TV)) (HS.out.2.alloc (.cells zV TV)))
     refine wpList_alloc_zero rfl TV rfl _ (zeroV _) ?_
     simp only [Act.put, zq1, zq2, zq3]
     generalize wr.alloc (.cells zV TV) = w6 at HA6 ⊢
     generalize wr.heap.size = g6 at HA6 ⊢
     refine wpList_store_blk (T := TV) (old := zV) (new := A) rfl rfl rfl rfl HA6.out.2 (infoV HAA.out.1.1) (by rw [HAA.out.1.1]; rfl) HAA.out.1.2 ?_
     intro w7 h7
     simp only [Act.put]
     have HS7 := Lib.hid (And.intro (HA6.out.1.trans h7.out.1) h7.out.2)
     clear h7 HA6 HLS
     refine wpList_nil ?_
     have HCH := Lib.hid (chunk_any b 0 cap _ w7 HS7.out.2)
     go_wp2_with (go_at_call 129; refine HCH.out.mono ?_; rintro e w8 ⟨b0, b1, rfl, h1, h2⟩; have HS8 := Lib.hid (And.intro (HS7.out.1.trans h1) h2); clear h1 h2)
     refine (wpIn_wide (n := 6)).1 ?_
     refine wpIn_rangeFunc_one (w0 := w) (t1 := 41) (p1 := 7) (u := fun _ : Unit => .slice (some ⟨b, 0, none⟩) 64 64) rfl (by omega) (gf := 149) (lb := #[.pointer (some ⟨b0, 0, none⟩), .pointer (some ⟨b1, 0, none⟩)]) rfl trivial (enters_of Tryz.func149 (by kernel_rfl) rfl)
      (xs := [()]) (Bx := chunkB b0 b1 b 0 cap) (chunk_seq Fence.wide (free_wide _) 5 b0 b1 b 0 cap hcap w) (suR g6 A A' (own8 (.slice (some ⟨b, 0, none⟩) 64 cap) (padL l) * G)) (fun _ => lift False) HS8.out.1 ?h0 ?assign ?body ?done ?stop
     case h0 =>
      unfold suR
      rw [if_pos rfl]
      exact HS8.out.2.perm (by ac_rfl)
     case assign =>
      intro l x W K hK
      simp only [zq1, zq2, zq3] at hK ⊢
      gi_wp2
      exact hK
     case body =>
      intro l' i x G' W hx hsm hs
      have hdd : ∀ k : Nat, (Fence.wide.depth.isSome = true → 1 ≤ k) := (free_wide Tryz.prog).ask
      match i, hx with
      | 0, hx =>
       unfold suR at hs
       rw [if_pos rfl] at hs
       have hblk := (hs.perm (show _ = pts g6 (.cells A TV (0, 0)) * (own8 (.slice (some ⟨b, 0, none⟩) 64 cap) (padL l) * G * G') by ac_rfl)).block
       obtain ⟨_, _, e1, hcp, hmx, hcb⟩ := own8_row (hs.perm (show _ = own8 (.slice (some ⟨b, 0, none⟩) 64 cap) (padL l) * (pts g6 (.cells A TV (0, 0)) * G * G') by ac_rfl))
       obtain ⟨b', off', e2, -, hcell⟩ := hcb (by rw [b8_len, HPN.out]; omega)
       subst e2
       simp only [Value.slice.injEq, Option.some.injEq, Addr.mk.injEq] at e1
       obtain ⟨⟨rfl, rfl, -⟩, -, -⟩ := e1
       have HB := HBW.out W _ hsm (hs.perm (show _ = (pts g6 (.cells A TV (0, 0)) * (own8 (.slice (some ⟨b, 0, none⟩) 64 cap) (padL l) * G')) * G by ac_rfl))
       have HCW := Lib.hid (HCM.out W HB (fun j hj => hcell j _ (by
        unfold b8 byN
        rw [List.getElem?_map, List.getElem?_eq_getElem (by rw [HPN.out]; exact hj)]
        rfl)))
       have HS0 := Lib.hid (And.intro hsm (hs.perm (show _ = pts g6 (.cells A TV (0, 0)) * (own8 (.slice (some ⟨b, 0, none⟩) 64 cap) (padL l) * G * G') by ac_rfl)))
       clear hcell hcb hmx hcp hs hsm HB hx
       simp only [zq1, zq2, zq3]
       gi_wp2_with ((with_reducible (apply wpListIn_load_V hblk HAA.out.1.1)); rfl; rfl; rfl)
       refine ⟨trivial, ?_⟩
       refine ((free_wide Tryz.prog).callsR l' _ HCW.out).mono ?_
       rintro e w9 ⟨rfl, h9⟩
       have HS9 := Lib.hid (And.intro (HS0.out.1.below h9) (HS0.out.2.below h9))
       clear h9 hblk
       dsimp only
       gi_wp2_with (refine wpListIn_store_V rfl rfl rfl rfl HS9.out.2 HAA.out.2.1 (by rw [HAA.out.2.1, HAA.out.1.1]) HAA.out.2.2 ?_; intro w10 h10)
       refine ⟨HS9.out.1.trans h10.out.1, ?_⟩
       unfold suR
       rw [if_neg (by omega)]
       exact h10.out.2.perm (by ac_rfl)
      | i + 1, hx => simp at hx
     case done =>
      intro D W hsm hs
      unfold suR at hs
      rw [if_neg (by simp)] at hs
      have HS10 := Lib.hid (And.intro hsm hs)
      clear hsm hs HCM
      have HA8 := Lib.hid (And.intro (HS10.out.1.alloc (.cells zB TB)) (HS10.out.2.alloc (.cells zB TB)))
      go_upto_region 15 with ((with_reducible (refine wpList_alloc_zero ?_ TB ?_ _ (zeroB _) ?_)); rfl; rfl)
      generalize W.alloc (.cells zB TB) = w11 at HA8 ⊢
      generalize W.heap.size = g8 at HA8 ⊢
      obtain ⟨FF, hFF⟩ : ∃ F, F = pts g6 (.cells A' TV (0, 0)) * (own8 (.slice (some ⟨b, 0, none⟩) 64 cap) (padL l) * G) * (pts D (.deferred (some [])) * chunkB b0 b1 b 0 cap) := ⟨_, rfl⟩
      have HFF := Lib.hid hFF
      rw [← hFF] at HA8
      have HC6 := Lib.hid (show ∀ W X, Sat W (X * FF) → ∀ j, j < 8 → W.cell? ⟨g6, 0 + j, none⟩ = some (.int .u32 ((sumS l j : Nat) : Int)) from fun W X h j hj => by
       rw [hFF] at h
       rw [cells_at (h.perm (show _ = pts g6 (.cells A' TV (0, 0)) * (X * (own8 (.slice (some ⟨b, 0, none⟩) 64 cap) (padL l) * G) * (pts D (.deferred (some [])) * chunkB b0 b1 b 0 cap)) by ac_rfl)).block, Nat.zero_add]
       exact HAT.out j hj)
      clear hFF HS10
      have HZ := Lib.hid (show arrK .u8 32 (fun j => if j < 0 then Go.Sha.sumN l j else 0) = zB from by rw [zB_arr]; exact arrK_congr fun j _ => if_neg (by omega))
      go_wp2
      go_loopw [45] (fun tv wr => L4S w g8 l FF tv wr) (fun tv _ => 32 - (intOf tv).toNat)
      case atStart => exact ⟨⟨0, by omega, rfl, HA8.out.1, by rw [HZ.out]; exact HA8.out.2⟩⟩
      case round =>
       clear HA8 HZ
       obtain ⟨q, hq, rfl, hsm, hst⟩ := hrel.st
       clear hrel
       have HST := Lib.hid hst
       have HSM2 := Lib.hid hsm
       clear hst hsm
       by_cases hql : q < 32
       ·have htd : decide ((q : Int) < 32) = true := decide_eq_true (by omega)
        have hwt : IntKind.i64.wrap ((q : Int) + 1) = (q : Int) + 1 := IntWalk.i64_in _ (by omega)
        have c6 := HC6.out wr _ HST.out (q / 4) (by omega)
        go_upto_region 18 with (fail)
        refine wp_region_lit ?_
        (apply wpList_runG rfl); (go_simp; first | rfl | exact ⟨rfl, rfl⟩); simp only [Act.put, zq1, zq2, zq3]
        (apply wpList_runG rfl); (go_simp; first | rfl | exact ⟨rfl, rfl⟩); simp only [Act.put, zq1, zq2, zq3]
        refine wpList_runG (v := .int .i64 ((q / 4 : Nat) : Int)) rfl (exec_binop (vx := .int .i64 (q : Int)) (vy := .int .i64 4) rfl rfl rfl rfl (by rw [b_quo4 _ _ (by omega)]; rfl)) ?_; simp only [Act.put, zq1, zq2, zq3]
        refine wpList_runG (v := .pointer (some ⟨g6, 0 + q / 4, none⟩)) rfl (exec_ixN rfl rfl rfl (by omega)) ?_; simp only [Act.put, zq1, zq2, zq3]
        refine wpList_runG (v := .int .u32 ((sumS l (q / 4) : Nat) : Int)) rfl (exec_load_cell rfl rfl Tryz.underlying86 rfl c6) ?_; simp only [Act.put, zq1, zq2, zq3]
        (apply wpList_runG rfl); (go_simp; first | rfl | exact ⟨rfl, rfl⟩); simp only [Act.put, zq1, zq2, zq3]
        refine wpList_runG (v := .int .i64 ((q % 4 : Nat) : Int)) rfl (exec_binop (vx := .int .i64 (q : Int)) (vy := .int .i64 4) rfl rfl rfl rfl (by rw [b_rem4]; rfl)) ?_; simp only [Act.put, zq1, zq2, zq3]
        refine wpList_runG (v := .int .i64 ((8 * (q % 4) : Nat) : Int)) rfl (exec_binop (vx := .int .i64 8) (vy := .int .i64 ((q % 4 : Nat) : Int)) rfl rfl rfl rfl (by rw [b_mul _ 8 _ ((8 * (q % 4) : Nat) : Int) (by omega) (by omega) (by omega)]; rfl)) ?_; simp only [Act.put, zq1, zq2, zq3]
        refine wpList_runG (v := .int .i64 ((24 - 8 * (q % 4) : Nat) : Int)) rfl (exec_binop (vx := .int .i64 24) (vy := .int .i64 ((8 * (q % 4) : Nat) : Int)) rfl rfl rfl rfl (by rw [b_sub _ 24 _ ((24 - 8 * (q % 4) : Nat) : Int) (by omega) (by omega) (by omega)]; rfl)) ?_; simp only [Act.put, zq1, zq2, zq3]
        refine wpList_runG (v := .int .u32 ((shr32 (sumS l (q / 4)) (24 - 8 * (q % 4)) : Nat) : Int)) rfl (exec_binop (vx := .int .u32 ((sumS l (q / 4) : Nat) : Int)) (vy := .int .i64 ((24 - 8 * (q % 4) : Nat) : Int)) rfl rfl rfl rfl (by rw [o_shr _ _ _ _ (by omega) (by omega) (HSL.out _)]; rfl)) ?_; simp only [Act.put, zq1, zq2, zq3]
        refine wpList_runG (v := .int .u8 ((Go.Sha.sumN l q : Nat) : Int)) rfl (exec_convert rfl rfl (o_cvt8 _ _)) ?_; simp only [Act.put, zq1, zq2, zq3]
        refine wpList_runG (v := .pointer (some ⟨g8, q, none⟩)) rfl (exec_ixB rfl rfl rfl (by omega)) ?_; simp only [Act.put, zq1, zq2, zq3]
        refine wpList_do rfl (exec_stB rfl rfl rfl (by rw [cells_at HST.out.block]; exact arrK_at .u8 32 _ hql) (thawed_at HST.out.block _)) ?_
        have h9 := HST.out.setCell (i := q) (.int .u8 ((Go.Sha.sumN l q : Nat) : Int))
        rw [arrK_set] at h9
        rw [show (fun j => if j = q then Go.Sha.sumN l q else if j < q then Go.Sha.sumN l j else 0) = fun j => if j < q + 1 then Go.Sha.sumN l j else 0 from funext fun j => by
         by_cases e : j = q
         ·subst e; rw [if_pos rfl, if_pos (by omega)]
         ·rw [if_neg e]
          by_cases e2 : j < q
          ·rw [if_pos e2, if_pos (by omega)]
          ·rw [if_neg e2, if_neg (by omega)]] at h9
        have HS9 := Lib.hid (And.intro (HSM2.out.setCell ⟨g8, q, none⟩ (.int .u8 ((Go.Sha.sumN l q : Nat) : Int))) h9)
        clear h9 c6
        generalize wr.setCell ⟨g8, q, none⟩ (.int .u8 ((Go.Sha.sumN l q : Nat) : Int)) = w9 at HS9 ⊢
        refine wpList_nil ?_
        go_wp2
        go_roundw
        case rel => exact ⟨⟨q + 1, by omega, by push_cast; rfl, HS9.out⟩⟩
        case measure => show 32 - ((q : Int) + 1).toNat < 32 - (q : Int).toNat; omega
       ·have hqe : q = 32 := by omega
        have htd : decide ((q : Int) < 32) = false := decide_eq_false (by omega)
        subst hqe
        obtain ⟨RR, hRR⟩ : ∃ R, R = arrK .u8 32 (Go.Sha.sumN l) := ⟨_, rfl⟩
        have HRR := Lib.hid hRR
        have HRS := Lib.hid (show RR.size = 32 ∧ ∀ v ∈ RR.toList, v.oneCell' = true by
         rw [hRR]
         refine ⟨arrK_size _ _ _, fun v hv => ?_⟩
         unfold arrK at hv
         simp at hv
         obtain ⟨j, _, rfl⟩ := hv
         rfl)
        have HB := Lib.hid (show Sat wr (pts g2 (.cells zB TB (0, 0)) * (pts g8 (.cells RR TB (0, 0)) * (pts D (.deferred (some [])) * (pts g6 (.cells A' TV (0, 0)) * (own8 (.slice (some ⟨b, 0, none⟩) 64 cap) (padL l) * (chunkB b0 b1 b 0 cap * old w)))))) from by
         have h := HST.out
         rw [HFF.out, HG.out, show (arrK .u8 32 fun j => if j < 32 then Go.Sha.sumN l j else 0) = RR from by rw [hRR]; exact arrK_congr fun j hj => if_pos hj] at h
         exact h.perm (by ac_rfl))
        have hblk := (HB.out.perm (show _ = pts g8 (.cells RR TB (0, 0)) * (pts g2 (.cells zB TB (0, 0)) * (pts D (.deferred (some [])) * (pts g6 (.cells A' TV (0, 0)) * (own8 (.slice (some ⟨b, 0, none⟩) 64 cap) (padL l) * (chunkB b0 b1 b 0 cap * old w))))) by ac_rfl)).block
        clear HST hRR
        go_wp2_with (first
         | ((with_reducible (apply wp_load_B hblk HRS.out.1)); rfl; rfl; rfl)
         | (refine wpList_store_blk (T := TB) (old := zB) (new := RR) rfl rfl rfl rfl HB.out (infoB HRS.out.1) (by rw [HRS.out.1]; simp [zB]) HRS.out.2 ?_; intro w12 h12))
        have hp := h12.out.2.perm (show _ = pts D (.deferred (some [])) * (pts g2 (.cells RR TB (0, 0)) * (pts g8 (.cells RR TB (0, 0)) * (pts g6 (.cells A' TV (0, 0)) * (own8 (.slice (some ⟨b, 0, none⟩) 64 cap) (padL l) * (chunkB b0 b1 b 0 cap * old w))))) by ac_rfl)
        refine ⟨by simp, .inl ⟨_, _, rfl, run_takeDeferred hp.block, ?_⟩⟩
        have hq := (hp.putObj (o' := .deferred none)).right
        refine ⟨.agg RR, results_cell_row Tryz.results102 _ _ g2 TB RR (0, 0) _ rfl hq.block Tryz.underlying181 rfl (infoB HRS.out.1), by rw [HRR.out], ?_⟩
        exact ((HSM2.out.trans h12.out.1).putObj _ _).below_of (hq.perm (show _ = (pts g2 (.cells RR TB (0, 0)) * (pts g8 (.cells RR TB (0, 0)) * (pts g6 (.cells A' TV (0, 0)) * (own8 (.slice (some ⟨b, 0, none⟩) 64 cap) (padL l) * chunkB b0 b1 b 0 cap)))) * old w by ac_rfl))
     case stop =>
      intro D c W hsm hs
      exact ((Sat.lift.1 hs).1).elim
end Go.Proofs.YteikbikopgabjaaGreatDoor
end
