import Derived.Test.YtmcclbiaoeilkaaGreatP16
import Derived.Test.YtmcclbiaoeilkaaGreatP17
/- Part 18 of a proof; the last part says what is proved. -/
namespace Go.Proofs.YtmcclbiaoeilkaaGreat
open Go.RowKit Go.Sl Go.ChangeMaps
section
variable {P : Program} {ops : Array Oper} {rest : List Oper} {o : Oper} {a : Act} {w : World} {Q : Exit → Act → World → Prop}
theorem wpList_append_run (hg : o.guard = none) (s x : Operand) (t1 t2 : TypeId) (ho : o.op = .call { callee := .builtin .append, args := #[s, x], argTypes := #[t1, t2] }) {vs vx v' : Value} {w' : World}
    (hs : a.eval s = vs) (hx : a.eval x = vx) (hr : (Builtin.append_ #[t1, t2] o.type #[vs, vx]).run P w = .ok v' w') (k : wpList P ops Q rest (a.put o.dst v') w') : wpList P ops Q (o :: rest) a w := by
  refine wpList_run hg (v := v') (w' := w') ?_ k
  unfold execOp
  simp only [ho, resolve, invoke, builtin, Sem.run_bind, Sem.run_pure, Result.andThen_ok, List.map_toArray, List.map_cons, List.map_nil, hs, hx, hr]
end
theorem seal_cells {w : World} {B C : Nat} {a : PlaceM} {g : GenM} {F : HProp} (h : Sat w (pts B (.cells (plA a) TPl (0, 0)) * (pts C (.cells (genA g) TGen (0, 0)) * F))) :
    (w.cell? ⟨B, 0, none⟩ = some (.int .i64 a.disk) ∧ w.cell? ⟨B, 1, none⟩ = some (.int .i64 a.area) ∧ w.cell? ⟨B, 2, none⟩ = some (.int .i64 a.index)) ∧
    (w.cell? ⟨C, 0, none⟩ = some (.int .i64 g.epoch) ∧ w.cell? ⟨C, 1, none⟩ = some (.int .i64 g.count)) ∧ B < w.heap.size ∧ C < w.heap.size := by
  have h1 := cells_at h.block
  have h2 := cells_at h.right.block
  exact ⟨⟨h1 0, h1 1, h1 2⟩, ⟨h2 0, h2 1⟩, h.lt, h.right.lt⟩
theorem run_str_own {w : World} {v : Value} {l : List UInt8} {X : HProp} (h0 : 0 < l.length) (h : Sat w (ownB v l * X)) : (convert 69 9 v).run Tryz.prog w = .ok (.string (strB l)) w := by
  obtain ⟨g, cap, cur, rfl, hn, hcm, hcs, ht, hS⟩ := ownB_iff h0 h
  refine run_convert_bytes_back (P := Tryz.prog) w 69 9 5 ⟨g, 0, none⟩ cap l Tryz.underlying69 Tryz.underlying5 Tryz.underlying9 ?_
  intro j hj
  refine ownB_olds ht hS.block j _ ?_
  simp [secL, byteV, hj]
set_option maxHeartbeats 1000000 in
set_option maxRecDepth 20000 in
theorem seal_nat (d ar ix ep cn : Nat) (p : List UInt8) (hok : sealOK ⟨d, ar, ix⟩ ⟨ep, cn⟩ p = true) (F : HProp) (w : World) (hF : Sat w F) :
    Calls Tryz.prog 87 #[.agg (plA ⟨d, ar, ix⟩), .agg (genA ⟨ep, cn⟩), .string (strB p)] w fun e w' => e = .returned (.tuple #[.string (strB (sealL ⟨d, ar, ix⟩ ⟨ep, cn⟩ p)), .int .i64 0]) ∧ Hid (Same w w' ∧ Sat w' F) := by
  obtain ⟨ti, hti, hz0, hts, hz2⟩ := info_parts infoB3
  have HTI := Lib.hid (And.intro hti (And.intro hz0 (And.intro hts hz2)))
  clear hti hz0 hts hz2
  have hok2 := hok
  unfold sealOK at hok
  simp only [Bool.and_eq_true, decide_eq_true_eq] at hok
  obtain ⟨⟨ha, hg⟩, hp⟩ := hok
  have hva := fun W => valid_any ⟨d, ar, ix⟩ W
  have hvg := fun W => validGen_any ⟨ep, cn⟩ W
  rw [ha] at hva
  rw [hg] at hvg
  have hsl : (strB p).size = p.length := strB_size p
  have hpd : decide ((40 : Int) < (p.length : Int)) = false := decide_eq_false (by omega)
  have HVA := Lib.hid hva
  have HVG := Lib.hid hvg
  have HSL := Lib.hid (show sealL ⟨d, ar, ix⟩ ⟨ep, cn⟩ p = leL (crcM (bodyL ⟨d, ar, ix⟩ ⟨ep, cn⟩ p)).toNat 4 ++ bodyL ⟨d, ar, ix⟩ ⟨ep, cn⟩ p from rfl)
  obtain ⟨q1, q2, q3, q4, q5, q6⟩ := placeOK_iff.1 ha
  obtain ⟨r1, r2, r3, r4, r5⟩ := genOK_iff.1 hg
  clear r5
  simp only at q1 q2 q3 q4 q5 q6 r1 r2 r3 r4
  have HBL := Lib.hid (bodyL_length (a := ⟨d, ar, ix⟩) (g := ⟨ep, cn⟩) hp)
  have HBD := Lib.hid (show bodyL ⟨d, ar, ix⟩ ⟨ep, cn⟩ p = [UInt8.ofNat ar, UInt8.ofNat d] ++ leL ix 2 ++ leL ep 4 ++ leL cn 4 ++ p ++ zerosL (40 - p.length) ++ leL ep 4 ++ leL cn 4 from rfl)
  have HU1 := Lib.hid (show ((ar : Int)) = ((UInt8.ofNat ar).toNat : Int) by rw [u8_ofNat_toNat (by omega)])
  have HU2 := Lib.hid (show ((d : Int)) = ((UInt8.ofNat d).toNat : Int) by rw [u8_ofNat_toNat (by omega)])
  have HZ := Lib.hid (show (40 : Int) - (p.length : Int) = ((40 - p.length : Nat) : Int) by omega)
  have hz1 := (Same.refl w).alloc (.cells (plA ⟨d, ar, ix⟩) TPl)
  have hz2 := hF.alloc (.cells (plA ⟨d, ar, ix⟩) TPl)
  have H1 := Lib.hid (And.intro (hz1.alloc (.cells (genA ⟨ep, cn⟩) TGen)) ((hz2.alloc (.cells (genA ⟨ep, cn⟩) TGen)).perm (show _ = pts w.heap.size (.cells (plA ⟨d, ar, ix⟩) TPl (0, 0)) * (pts (w.alloc (.cells (plA ⟨d, ar, ix⟩) TPl)).heap.size (.cells (genA ⟨ep, cn⟩) TGen (0, 0)) * F) from by ac_rfl)))
  rw [World.size_alloc] at H1
  clear hva hvg hF hok2 ha hg hz1 hz2
  go_enter Tryz.func87, Tryz.ntmps87
  go_upto_region 1 with (fail)
  generalize (w.alloc (.cells (plA ⟨d, ar, ix⟩) TPl)).alloc (.cells (genA ⟨ep, cn⟩) TGen) = w1 at H1 ⊢
  generalize w.heap.size = B at H1 ⊢
  obtain ⟨⟨b0, b1, b2⟩, ⟨c0, c1⟩, lb, lc⟩ := seal_cells H1.out.2
  go_upto_region 3 with (first
    | (go_at_call 121; refine (HVA.out _).mono ?_; rintro e w2 ⟨rfl, hb⟩; replace H1 := Lib.hid (And.intro (H1.out.1.below hb) (H1.out.2.below hb)); clear b0 b1 b2 c0 c1 lb lc hb; obtain ⟨⟨b0, b1, b2⟩, ⟨c0, c1⟩, lb, lc⟩ := seal_cells H1.out.2)
    | (go_at_call 134; refine (HVG.out _).mono ?_; rintro e w3 ⟨rfl, hb⟩; replace H1 := Lib.hid (And.intro (H1.out.1.below hb) (H1.out.2.below hb)); clear b0 b1 b2 c0 c1 lb lc hb; obtain ⟨⟨b0, b1, b2⟩, ⟨c0, c1⟩, lb, lc⟩ := seal_cells H1.out.2))
  generalize hE : pts B (.cells (plA ⟨d, ar, ix⟩) TPl (0, 0)) * (pts (B + 1) (.cells (genA ⟨ep, cn⟩) TGen (0, 0)) * F) = E at H1
  have HC := Lib.hid (show ∀ W X, Sat W (X * E) → W.cell? ⟨B + 1, 0, none⟩ = some (.int .i64 (ep : Int)) ∧ W.cell? ⟨B + 1, 1, none⟩ = some (.int .i64 (cn : Int)) from fun W X h => by
    subst hE
    exact (seal_cells h.right).2.1)
  have HEF := Lib.hid (show ∀ W, Sat W E → Sat W F from fun W h => by subst hE; exact h.right.right)
  clear hE
  go_upto_region 4 with ((go_at_call 135); rw [HU1.out, HU2.out]; refine (put2_any _ [UInt8.ofNat ar, UInt8.ofNat d] ix (by omega) (by simp) _ _ (own_fresh _ _ rfl (by simp [maxLen]) H1.out.2)).mono ?_; rintro e w4 ⟨v4, rfl, h4⟩; replace H1 := Lib.hid (And.intro ((H1.out.1.alloc _).trans h4.out.1) h4.out.2); clear h4)
  clear b0 b1 b2 c0 c1 lb lc
  have HP4 := Lib.hid (show ∀ (v : Value) (l : List UInt8) (n : Nat) (W : World), l.length ≤ 1000000 → n < 4294967296 → Sat W (ownB v l * E) → Calls Tryz.prog 136 #[v, .int .u32 (n : Int)] W fun e w' => ∃ v', e = .returned v' ∧ Hid (Same W w' ∧ Sat w' (ownB v' (l ++ leL n 4) * E)) from fun v l n W hl hn h => put4_any v l n hn hl E W h)
  have ke : IntKind.u32.wrap (ep : Int) = (ep : Int) := IntWalk.u32_in _ (by omega)
  have kc : IntKind.u32.wrap (cn : Int) = (cn : Int) := IntWalk.u32_in _ (by omega)
  have LE := Lib.hid (show ep < 4294967296 ∧ cn < 4294967296 by omega)
  have LL := Lib.hid (show ∀ n m, (leL n m).length = m from leL_length)
  have hS0 := HC.out w4.drew _ H1.out.2
  refine reg_begin (fun w' => w'.cell? ⟨B + 1, 0, none⟩ = some (.int .i64 (ep : Int)) ∧ w'.cell? ⟨B + 1, 1, none⟩ = some (.int .i64 (cn : Int))) (by kernel_rfl) ?_
  (apply reg_take 0 rfl rfl (by decide +kernel) rfl); (rintro w' ⟨h1, h2⟩; go_simp; rfl); exact hS0; simp only [List.setIfInBounds_toArray, List.set_cons_succ, List.set_cons_zero]
  (apply reg_take 1 rfl rfl (by decide +kernel) rfl); (rintro w' ⟨h1, h2⟩; go_simp; rfl); exact hS0; simp only [List.setIfInBounds_toArray, List.set_cons_succ, List.set_cons_zero]
  (apply reg_take 2 rfl rfl (by decide +kernel) rfl); (rintro w' ⟨h1, h2⟩; go_simp; rfl); exact hS0; simp only [List.setIfInBounds_toArray, List.set_cons_succ, List.set_cons_zero]
  (apply reg_take 3 rfl rfl (by decide +kernel) rfl); (rintro w' ⟨h1, h2⟩; go_simp; rfl); exact hS0; simp only [List.setIfInBounds_toArray, List.set_cons_succ, List.set_cons_zero]
  (apply reg_take 5 rfl rfl (by decide +kernel) rfl); (rintro w' ⟨h1, h2⟩; go_simp; rfl); exact hS0; simp only [List.setIfInBounds_toArray, List.set_cons_succ, List.set_cons_zero]
  (apply reg_take 6 rfl rfl (by decide +kernel) rfl); (rintro w' ⟨h1, h2⟩; go_simp; rfl); exact hS0; simp only [List.setIfInBounds_toArray, List.set_cons_succ, List.set_cons_zero]
  (apply reg_take 7 rfl rfl (by decide +kernel) rfl); (rintro w' ⟨h1, h2⟩; go_simp; rfl); exact hS0; simp only [List.setIfInBounds_toArray, List.set_cons_succ, List.set_cons_zero]
  refine reg_call 4 rfl rfl (by decide +kernel) rfl (f := 136) (args := #[v4, .int .u32 (ep : Int)]) (R := fun v w' => Hid (Same w4.drew w' ∧ Sat w' (ownB v ([UInt8.ofNat ar, UInt8.ofNat d] ++ leL ix 2 ++ leL ep 4) * E))) (by kernel_rfl) (HP4.out v4 _ ep w4.drew (by simp [LL.out]) LE.out.1 H1.out.2) ?_
  rintro v5 w5 h5
  replace H1 := Lib.hid (And.intro (H1.out.1.drew.trans h5.out.1) h5.out.2)
  replace hS0 := HC.out w5 _ H1.out.2
  refine ⟨hS0, ?_⟩
  simp only [List.setIfInBounds_toArray, List.set_cons_succ, List.set_cons_zero]
  refine reg_call 8 rfl rfl (by decide +kernel) rfl (f := 136) (args := #[v5, .int .u32 (cn : Int)]) (R := fun v w' => Hid (Same w5 w' ∧ Sat w' (ownB v ([UInt8.ofNat ar, UInt8.ofNat d] ++ leL ix 2 ++ leL ep 4 ++ leL cn 4) * E))) (by kernel_rfl) (HP4.out v5 _ cn w5 (by simp [LL.out]) LE.out.2 H1.out.2) ?_
  rintro v6 w6 h6
  replace H1 := Lib.hid (And.intro (H1.out.1.trans h6.out.1) h6.out.2)
  replace hS0 := HC.out w6 _ H1.out.2
  refine ⟨hS0, ?_⟩
  simp only [List.setIfInBounds_toArray, List.set_cons_succ, List.set_cons_zero]
  (apply reg_take 9 rfl rfl (by decide +kernel) rfl); (rintro w' ⟨h1, h2⟩; go_simp; rfl); exact hS0; simp only [List.setIfInBounds_toArray, List.set_cons_succ, List.set_cons_zero]
  refine reg_done (by decide +kernel) ?_
  clear h5 h6
  obtain ⟨v7, w7, hr7, hs7, hS7⟩ := run_append_str (by simp) H1.out.2 p (by simp [LL.out]; omega) 69
  replace H1 := Lib.hid (And.intro (H1.out.1.trans hs7) hS7)
  have HR7 := Lib.hid hr7
  clear hs7 hS7 hr7
  go_upto_region 6 with (at_builtin; refine wpList_append_run rfl _ _ _ _ rfl rfl rfl HR7.out ?_)
  obtain ⟨v8, w8, hr8, hs8, hS8⟩ := run_append_zeros (by simp) H1.out.2 (40 - p.length) (by simp [LL.out]; omega) 69
  replace H1 := Lib.hid (And.intro (H1.out.1.trans hs8) hS8)
  have HR8 := Lib.hid hr8
  clear hs8 hS8 hr8
  have hp0 : (p.length : Int) ≤ 40 := by omega
  go_upto_region 7 with (at_builtin; refine wpList_append_run rfl _ _ _ _ rfl rfl (congrArg (Value.int .i64) HZ.out) HR8.out ?_)
  replace hS0 := HC.out w8.drew _ H1.out.2
  refine reg_begin (fun w' => w'.cell? ⟨B + 1, 0, none⟩ = some (.int .i64 (ep : Int)) ∧ w'.cell? ⟨B + 1, 1, none⟩ = some (.int .i64 (cn : Int))) (by kernel_rfl) ?_
  (apply reg_take 0 rfl rfl (by decide +kernel) rfl); (rintro w' ⟨h1, h2⟩; go_simp; rfl); exact hS0; simp only [List.setIfInBounds_toArray, List.set_cons_succ, List.set_cons_zero]
  (apply reg_take 1 rfl rfl (by decide +kernel) rfl); (rintro w' ⟨h1, h2⟩; go_simp; rfl); exact hS0; simp only [List.setIfInBounds_toArray, List.set_cons_succ, List.set_cons_zero]
  (apply reg_take 2 rfl rfl (by decide +kernel) rfl); (rintro w' ⟨h1, h2⟩; go_simp; rfl); exact hS0; simp only [List.setIfInBounds_toArray, List.set_cons_succ, List.set_cons_zero]
  (apply reg_take 3 rfl rfl (by decide +kernel) rfl); (rintro w' ⟨h1, h2⟩; go_simp; rfl); exact hS0; simp only [List.setIfInBounds_toArray, List.set_cons_succ, List.set_cons_zero]
  (apply reg_take 5 rfl rfl (by decide +kernel) rfl); (rintro w' ⟨h1, h2⟩; go_simp; rfl); exact hS0; simp only [List.setIfInBounds_toArray, List.set_cons_succ, List.set_cons_zero]
  (apply reg_take 6 rfl rfl (by decide +kernel) rfl); (rintro w' ⟨h1, h2⟩; go_simp; rfl); exact hS0; simp only [List.setIfInBounds_toArray, List.set_cons_succ, List.set_cons_zero]
  (apply reg_take 7 rfl rfl (by decide +kernel) rfl); (rintro w' ⟨h1, h2⟩; go_simp; rfl); exact hS0; simp only [List.setIfInBounds_toArray, List.set_cons_succ, List.set_cons_zero]
  refine reg_call 4 rfl rfl (by decide +kernel) rfl (f := 136) (args := #[v8, .int .u32 (ep : Int)]) (R := fun v w' => Hid (Same w8.drew w' ∧ Sat w' (ownB v ([UInt8.ofNat ar, UInt8.ofNat d] ++ leL ix 2 ++ leL ep 4 ++ leL cn 4 ++ p ++ zerosL (40 - p.length) ++ leL ep 4) * E))) (by kernel_rfl) (HP4.out v8 _ ep w8.drew (by simp [LL.out, zerosL]; omega) LE.out.1 H1.out.2) ?_
  rintro v9 w9 h9
  replace H1 := Lib.hid (And.intro (H1.out.1.drew.trans h9.out.1) h9.out.2)
  replace hS0 := HC.out w9 _ H1.out.2
  refine ⟨hS0, ?_⟩
  simp only [List.setIfInBounds_toArray, List.set_cons_succ, List.set_cons_zero]
  refine reg_call 8 rfl rfl (by decide +kernel) rfl (f := 136) (args := #[v9, .int .u32 (cn : Int)]) (R := fun v w' => Hid (Same w9 w' ∧ Sat w' (ownB v ([UInt8.ofNat ar, UInt8.ofNat d] ++ leL ix 2 ++ leL ep 4 ++ leL cn 4 ++ p ++ zerosL (40 - p.length) ++ leL ep 4 ++ leL cn 4) * E))) (by kernel_rfl) (HP4.out v9 _ cn w9 (by simp [LL.out, zerosL]; omega) LE.out.2 H1.out.2) ?_
  rintro v10 w10 h10
  replace H1 := Lib.hid (And.intro (H1.out.1.trans h10.out.1) h10.out.2)
  replace hS0 := HC.out w10 _ H1.out.2
  refine ⟨hS0, ?_⟩
  simp only [List.setIfInBounds_toArray, List.set_cons_succ, List.set_cons_zero]
  (apply reg_take 9 rfl rfl (by decide +kernel) rfl); (rintro w' ⟨h1, h2⟩; go_simp; rfl); exact hS0; simp only [List.setIfInBounds_toArray, List.set_cons_succ, List.set_cons_zero]
  refine reg_done (by decide +kernel) ?_
  clear h9 h10 hS0
  have hA := H1.out
  rw [← HBD.out] at hA
  replace H1 := Lib.hid hA
  clear hA
  replace HBL := Lib.hid HBL.out
  obtain ⟨q, hq⟩ : ∃ q, bodyL ⟨d, ar, ix⟩ ⟨ep, cn⟩ p = q := ⟨_, rfl⟩
  rw [hq] at H1 HSL HBL
  clear hq HBD
  obtain ⟨g10, cap10, rfl, _⟩ := ownAt_cells H1.out.2 (by rw [HBL.out]; decide)
  have hof := of_any (.slice (some ⟨g10, 0, none⟩) q.length cap10) q _ w10 H1.out.2 (fun W h => ownB_bytes h) (by rw [HBL.out]; decide)
  unfold u32V at hof
  have hcl := (crcM q).toNat_lt
  have hsl2 := HSL.out
  obtain ⟨c, hc⟩ : ∃ c, (crcM q).toNat = c := ⟨_, rfl⟩
  rw [hc] at hof hcl hsl2
  replace HSL := Lib.hid hsl2
  clear hsl2 hc
  have HOF := Lib.hid hof
  have HCL := Lib.hid hcl
  have HPX := Lib.hid (show ∀ W F', Sat W F' → Calls Tryz.prog 136 #[.slice none 0 0, .int .u32 (c : Int)] W fun e w' => ∃ v', e = .returned v' ∧ Hid (Same W w' ∧ Sat w' (ownB v' ([] ++ leL c 4) * F')) from fun W F' h => put4_any (.slice none 0 0) [] c hcl (by simp) F' W (ownB_nil.2 h))
  clear hof hcl
  go_wp2_with (first
    | (go_at_call 137; refine (HOF.out).mono ?_; rintro e w11 ⟨rfl, h11⟩; replace H1 := Lib.hid (And.intro (H1.out.1.trans h11.out.1) h11.out.2); clear h11)
    | (go_at_call 136; refine (HPX.out _ _ H1.out.2).mono ?_; rintro e w12 ⟨v12, rfl, h12⟩; replace H1 := Lib.hid (And.intro (H1.out.1.trans h12.out.1) h12.out.2); clear h12)
    | (at_builtin; refine wpList_append_ownAt (F := ownB (.slice (some ⟨g10, 0, none⟩) q.length cap10) q * E) rfl _ _ 69 TByte rfl ti _ Tryz.underlying69 HTI.out.1 HTI.out.2.1 HTI.out.2.2.1 HTI.out.2.2.2 rfl H1.out.2 (secL q) rfl rfl (by rw [secL_length, Nat.mul_one]) ?_ ?_ (by have := HBL.out; simp only [List.nil_append, leL_length, maxLen]; omega) (by have := HBL.out; simp only [List.nil_append, leL_length]; omega) ?_))
  · have hx := fun (cur : Array Value) => ownB_olds (l := q) (w := w12) (g := g10) (cur := cur)
    intro j u hu
    obtain ⟨g', cap', cur', e', _, _, _, ht', hS'⟩ := ownB_iff (by rw [HBL.out]; decide) H1.out.2.right
    simp only [Value.slice.injEq, Option.some.injEq, Addr.mk.injEq, and_true] at e'
    obtain ⟨⟨rfl, _⟩, _⟩ := e'
    exact hx _ ht' hS'.block j u hu
  · intro u hu
    obtain ⟨x, _, rfl⟩ := List.mem_map.1 hu
    rfl
  intro v13 w13 h13
  have hS13 : Sat w13 (ownB v13 (leL c 4 ++ q) * (ownB (.slice (some ⟨g10, 0, none⟩) q.length cap10) q * E)) := by
    have h := h13.out.2
    unfold ownB
    rw [List.length_append, show secL (leL c 4 ++ q) = secL (leL c 4) ++ secL q by simp [secL]]
    exact h
  have hcv := run_str_own (by rw [List.length_append, HBL.out]; omega) hS13
  replace H1 := Lib.hid (And.intro (H1.out.1.trans h13.out.1) (HEF.out _ hS13.right.right))
  have HCV := Lib.hid hcv
  clear h13 hS13 hcv
  refine wpList_run rfl (exec_convert rfl rfl HCV.out) ?_
  go_wp2
  go_ret2
  exact ⟨by rw [HSL.out]; rfl, H1.out⟩
theorem seal_any (a : PlaceM) (g : GenM) (p : List UInt8) (hok : sealOK a g p = true) (F : HProp) (w : World) (hF : Sat w F) :
    Calls Tryz.prog 87 #[.agg (plA a), .agg (genA g), .string (strB p)] w fun e w' => e = .returned (.tuple #[.string (strB (sealL a g p)), .int .i64 0]) ∧ Hid (Same w w' ∧ Sat w' F) := by
  have hok2 := hok
  unfold sealOK at hok
  simp only [Bool.and_eq_true, decide_eq_true_eq] at hok
  obtain ⟨⟨ha, hg⟩, hp⟩ := hok
  obtain ⟨q1, q2, q3, q4, q5, q6⟩ := placeOK_iff.1 ha
  obtain ⟨r1, r2, r3, r4, r5⟩ := genOK_iff.1 hg
  obtain ⟨d, ar, ix⟩ := a
  obtain ⟨ep, cn⟩ := g
  simp only at q1 q2 q3 q4 q5 q6 r1 r2 r3 r4
  obtain ⟨d, rfl⟩ := Int.eq_ofNat_of_zero_le q1
  obtain ⟨ar, rfl⟩ := Int.eq_ofNat_of_zero_le (show 0 ≤ ar by omega)
  obtain ⟨ix, rfl⟩ := Int.eq_ofNat_of_zero_le q5
  obtain ⟨ep, rfl⟩ := Int.eq_ofNat_of_zero_le r1
  obtain ⟨cn, rfl⟩ := Int.eq_ofNat_of_zero_le r2
  exact seal_nat d ar ix ep cn p hok2 F w hF
end Go.Proofs.YtmcclbiaoeilkaaGreat
namespace Go.Proofs.YtmcclbiaoeilkaaGreat
open Go.RowKit Go.Sl Go.ChangeMaps
theorem star_left_comm (A B C : HProp) : A * (B * C) = B * (A * C) := by ac_rfl
def zPl : Array Value := #[.int .i64 0, .int .i64 0, .int .i64 0]
def zGen : Array Value := #[.int .i64 0, .int .i64 0]
theorem zeroPl (w : World) : (zeroValue TPl).run Tryz.prog w = .ok (.agg zPl) w := by kernel_rfl
theorem zeroGen (w : World) : (zeroValue TGen).run Tryz.prog w = .ok (.agg zGen) w := by kernel_rfl
theorem infoPl {c : Array Value} (h : c.size = 3) : (Tryz.prog.info? TPl).map (·.size) = some c.size := by rw [h]; kernel_rfl
theorem infoGen {c : Array Value} (h : c.size = 2) : (Tryz.prog.info? TGen).map (·.size) = some c.size := by rw [h]; kernel_rfl
theorem bad_cells {w : World} {B : Nat} {X : HProp} (h : Sat w (pts B (.cells zPl TPl (0, 0)) * (pts (B + 1) (.cells zGen TGen (0, 0)) * X))) :
    (w.cell? ⟨B, 0, none⟩ = some (.int .i64 0) ∧ w.cell? ⟨B, 1, none⟩ = some (.int .i64 0) ∧ w.cell? ⟨B, 2, none⟩ = some (.int .i64 0) ∧ w.cell? ⟨B + 1, 0, none⟩ = some (.int .i64 0) ∧ w.cell? ⟨B + 1, 1, none⟩ = some (.int .i64 0)) ∧
    (w.frozen? ⟨B, 0, none⟩ = false ∧ w.frozen? ⟨B, 1, none⟩ = false ∧ w.frozen? ⟨B, 2, none⟩ = false ∧ w.frozen? ⟨B + 1, 0, none⟩ = false ∧ w.frozen? ⟨B + 1, 1, none⟩ = false) := by
  have h1 := cells_at h.block
  have h2 := cells_at h.right.block
  have f1 := thawed_at h.block
  have f2 := thawed_at h.right.block
  exact ⟨⟨h1 0, h1 1, h1 2, h2 0, h2 1⟩, f1 0, f1 1, f1 2, f2 0, f2 1⟩
theorem bad_store {w w0 : World} {B : Nat} {X : HProp} (hm : Same w0 w) (h : Sat w (pts B (.cells zPl TPl (0, 0)) * (pts (B + 1) (.cells zGen TGen (0, 0)) * X))) :
    Same w0 (((((w.setCell ⟨B, 0, none⟩ (.int .i64 0)).setCell ⟨B, 1, none⟩ (.int .i64 0)).setCell ⟨B, 2, none⟩ (.int .i64 0)).setCell ⟨B + 1, 0, none⟩ (.int .i64 0)).setCell ⟨B + 1, 1, none⟩ (.int .i64 0)) ∧
    Sat (((((w.setCell ⟨B, 0, none⟩ (.int .i64 0)).setCell ⟨B, 1, none⟩ (.int .i64 0)).setCell ⟨B, 2, none⟩ (.int .i64 0)).setCell ⟨B + 1, 0, none⟩ (.int .i64 0)).setCell ⟨B + 1, 1, none⟩ (.int .i64 0)) (pts B (.cells zPl TPl (0, 0)) * (pts (B + 1) (.cells zGen TGen (0, 0)) * X)) := by
  refine ⟨((((hm.setCell _ _).setCell _ _).setCell _ _).setCell _ _).setCell _ _, ?_⟩
  have h3 := ((h.setCell (i := 0) (.int .i64 0)).setCell (i := 1) (.int .i64 0)).setCell (i := 2) (.int .i64 0)
  have h5 := ((h3.perm (star_left_comm _ _ _)).setCell (i := 0) (.int .i64 0)).setCell (i := 1) (.int .i64 0)
  exact h5.perm (star_left_comm _ _ _)
theorem strB_sub (s : List UInt8) (i j : Nat) : (strB s).extract i j = strB (subL s i j) := by
  apply ByteArray.ext
  simp [strB, subL, ByteArray.data_extract, List.extract]
section
variable {o : Oper} {a : Act} {w : World}
theorem exec_str_index {T : TypeId} {x y : Operand} {s : List UInt8} {i : Nat} (ho : o.op = .index T x y) (hT : Tryz.prog.underlying T = some .string) (hx : a.eval x = .string (strB s)) (hy : a.eval y = .int .i64 (i : Int)) (h : i < s.length) :
    (execOp a.eval o).run Tryz.prog w = .ok (.value (.int .u8 ((s.getD i 0).toNat : Int))) w := by
  have hs := strB_size s
  have e : (Instr.index T (.string (strB s)) (.int .i64 (i : Int))).run Tryz.prog w = .ok (.int .u8 ((s.getD i 0).toNat : Int)) w := by
    rw [run_index_string _ _ _ _ _ hT]
    rw [dif_pos ⟨by omega, by omega⟩]
    have e2 : ∀ h' : (i : Int).toNat < (strB s).size, (strB s)[(i : Int).toNat]'h' = s.getD i 0 := fun h' => by
      rw [List.getD_eq_getElem?_getD, List.getElem?_eq_getElem h]
      rfl
    rw [e2]
  unfold execOp
  simp [ho, hx, hy, e]
theorem exec_str_slice {T : TypeId} {x y z : Operand} {s : List UInt8} {i j : Nat} (ho : o.op = .slice T x (some y) (some z) none) (hT : Tryz.prog.underlying T = some .string) (hx : a.eval x = .string (strB s)) (hy : a.eval y = .int .i64 (i : Int)) (hz : a.eval z = .int .i64 (j : Int)) (h : i ≤ j) (h2 : j ≤ s.length) :
    (execOp a.eval o).run Tryz.prog w = .ok (.value (.string (strB (subL s i j)))) w := by
  have hs := strB_size s
  have e : (Instr.sliceAt T (.string (strB s)) (some (.int .i64 (i : Int))) (some (.int .i64 (j : Int))) none).run Tryz.prog w = .ok (.string (strB (subL s i j))) w := by
    rw [run_sliceAt_string _ _ _ _ _ _ hT, run_slice_string_if _ _ _ _ _ _ _ hT, if_pos (by omega), if_pos (by omega), ← strB_sub]
    rfl
  unfold execOp
  simp [ho, hx, hy, hz, e]
theorem exec_str_from {T : TypeId} {x y : Operand} {s : List UInt8} {i : Nat} (ho : o.op = .slice T x (some y) none none) (hT : Tryz.prog.underlying T = some .string) (hx : a.eval x = .string (strB s)) (hy : a.eval y = .int .i64 (i : Int)) (h : i ≤ s.length) :
    (execOp a.eval o).run Tryz.prog w = .ok (.value (.string (strB (s.drop i)))) w := by
  have hs := strB_size s
  have e : (Instr.sliceAt T (.string (strB s)) (some (.int .i64 (i : Int))) none none).run Tryz.prog w = .ok (.string (strB (s.drop i))) w := by
    rw [run_sliceAt_string _ _ _ _ _ _ hT, run_slice_string_l _ _ _ hT _ _ (by omega) (by omega), strB_sub, hs]
    have e2 : subL s (i : Int).toNat s.length = s.drop i := by
      unfold subL
      rw [List.take_of_length_le (by rw [List.length_drop]; omega)]
      rfl
    rw [e2]
  unfold execOp
  simp [ho, hx, hy, e]
theorem exec_str_to {T : TypeId} {x z : Operand} {s : List UInt8} {j : Nat} (ho : o.op = .slice T x none (some z) none) (hT : Tryz.prog.underlying T = some .string) (hx : a.eval x = .string (strB s)) (hz : a.eval z = .int .i64 (j : Int)) (h2 : j ≤ s.length) :
    (execOp a.eval o).run Tryz.prog w = .ok (.value (.string (strB (s.take j)))) w := by
  have hs := strB_size s
  have e : (Instr.sliceAt T (.string (strB s)) none (some (.int .i64 (j : Int))) none).run Tryz.prog w = .ok (.string (strB (s.take j))) w := by
    rw [run_sliceAt_string _ _ _ _ _ _ hT, run_slice_string_h _ _ _ hT _ _ (by omega) (by omega), strB_sub]
    simp [subL]
  unfold execOp
  simp [ho, hx, hz, e]
theorem exec_str_neq {T t2 : TypeId} {x y : Operand} {s t : List UInt8} (ho : o.op = .binOp .neq T x y t2) (hx : a.eval x = .string (strB s)) (hy : a.eval y = .string (strB t)) (hg : eqGuard .neq T x y (.string (strB s)) (.string (strB t)) = pure ()) :
    (execOp a.eval o).run Tryz.prog w = .ok (.value (.bool (!decide (s = t)))) w := by
  refine exec_binop ho hx hy hg ?_
  rw [binOp_string_neq, Lib.toList_data, Lib.toList_data]
  show Result.ok (Value.bool (!(s.toArray.toList == t.toArray.toList))) w = _
  rw [show (s.toArray.toList == t.toArray.toList) = decide (s = t) by rw [Bool.eq_iff_iff]; simp]
end
theorem str_bytes (s : List UInt8) (W : World) : ∃ (c : Array Value) (fr : Nat × Nat) (cap : Nat), (convert 9 69 (.string (strB s))).run Tryz.prog W = .ok (.slice (some ⟨W.heap.size, 0, none⟩) s.length cap) (W.drew.alloc (.cells c TByte fr)) ∧ ∀ (j : Nat) (u : Value), (secL s)[j]? = some u → c[j]? = some u := by
  have h := run_bytes_of_string (P := Tryz.prog) W 9 69 5 (strB s) Tryz.underlying9 Tryz.underlying69 Tryz.underlying5
  rw [strB_size] at h
  refine ⟨_, _, _, h, ?_⟩
  intro j u hu
  have hj : j < s.length := by have := (List.getElem?_eq_some_iff.1 hu).1; simpa [secL] using this
  simp only [secL, List.getElem?_map] at hu
  have hu' : (s.map fun b => Value.int .u8 b.toNat)[j]? = some u := by simpa [byteV] using hu
  unfold bytesRow
  rw [Array.getElem?_append_left (by simpa [strB] using hj)]
  simpa [strB] using hu'
theorem lab_cells {w : World} {D C : Nat} {p q r g h : Int} {X : HProp} (hs : Sat w (pts D (.cells #[.int .i64 g, .int .i64 h] TGen (0, 0)) * (pts C (.cells #[.int .i64 p, .int .i64 q, .int .i64 r] TPl (0, 0)) * X))) :
    w.cell? ⟨C, 0, none⟩ = some (.int .i64 p) ∧ w.cell? ⟨C, 1, none⟩ = some (.int .i64 q) ∧ w.cell? ⟨C, 2, none⟩ = some (.int .i64 r) ∧ w.cell? ⟨D, 0, none⟩ = some (.int .i64 g) ∧ w.cell? ⟨D, 1, none⟩ = some (.int .i64 h) := by
  have h1 := cells_at hs.block
  have h2 := cells_at hs.right.block
  exact ⟨h2 0, h2 1, h2 2, h1 0, h1 1⟩
def labP (s : List UInt8) : PlaceM := if labelOK s then placeAt s else ⟨0, 0, 0⟩
def labG (s : List UInt8) : GenM := if labelOK s then genAt s 8 else g0
def labE (s : List UInt8) : Int := if labelOK s then 0 else 7
set_option maxHeartbeats 1000000 in
set_option maxRecDepth 20000 in
theorem label_any (s : List UInt8) (hs : s.length = 64) (F : HProp) (w : World) (hF : Sat w F) :
    Calls Tryz.prog 122 #[.string (strB s)] w fun e w' => e = .returned (.tuple #[.agg (plA (labP s)), .agg (genA (labG s)), .int .i64 (labE s)]) ∧ Hid (Same w w' ∧ Sat w' F) := by
  have hsz : (strB s).size = 64 := by rw [strB_size, hs]
  have H1 := Lib.hid (And.intro (((Same.refl w).alloc (.cells zPl TPl)).alloc (.cells zGen TGen)) (((hF.alloc (.cells zPl TPl)).alloc (.cells zGen TGen)).perm (show _ = pts w.heap.size (.cells zPl TPl (0, 0)) * (pts (w.alloc (.cells zPl TPl)).heap.size (.cells zGen TGen (0, 0)) * F) from by ac_rfl)))
  rw [World.size_alloc] at H1
  have HS := Lib.hid hs
  clear hF hs
  go_enter Tryz.func122, Tryz.ntmps122
  go_upto_region 3 with (first
    | ((with_reducible (refine wpList_alloc_zero ?_ TPl ?_ _ (zeroPl _) ?_)); rfl; rfl)
    | ((with_reducible (refine wpList_alloc_zero ?_ TGen ?_ _ (zeroGen _) ?_)); rfl; rfl))
  generalize (w.alloc (.cells zPl TPl)).alloc (.cells zGen TGen) = w1 at H1 ⊢
  generalize w.heap.size = B at H1 ⊢
  refine reg_begin (fun _ => True) (by kernel_rfl) ?_
  obtain ⟨c4, hc4⟩ : ∃ c, s.getD 4 0 = c := ⟨_, rfl⟩
  obtain ⟨c5, hc5⟩ : ∃ c, s.getD 5 0 = c := ⟨_, rfl⟩
  have HA := Lib.hid (show placeAt s = ⟨(c5.toNat : Int), (c4.toNat : Int), (getM (subL s 6 8) : Int)⟩ by rw [← hc4, ← hc5]; rfl)
  have HG := Lib.hid (show genAt s 8 = ⟨(getM (subL s 8 12) : Int), (getM (subL s 12 16) : Int)⟩ from rfl)
  have X4 := Lib.hid hc4
  have X5 := Lib.hid hc5
  have k4 : IntKind.i64.wrap (c4.toNat : Int) = (c4.toNat : Int) := IntWalk.i64_in _ (by have := c4.toNat_lt; omega)
  have k5 : IntKind.i64.wrap (c5.toNat : Int) = (c5.toNat : Int) := IntWalk.i64_in _ (by have := c5.toNat_lt; omega)
  clear hc4 hc5
  (apply reg_take 0 rfl rfl (by decide +kernel) rfl); (intro w' _; go_simp; rfl); exact trivial; simp only [List.setIfInBounds_toArray, List.set_cons_succ, List.set_cons_zero]
  refine reg_take 1 (v := .int .u8 (c4.toNat : Int)) rfl rfl (by decide +kernel) rfl (fun w' _ => by rw [← X4.out]; exact exec_str_index (i := 4) rfl Tryz.underlying9 rfl rfl (by rw [HS.out]; decide)) trivial ?_; simp only [List.setIfInBounds_toArray, List.set_cons_succ, List.set_cons_zero]
  (apply reg_take 2 rfl rfl (by decide +kernel) rfl); (intro w' _; go_simp; rfl); exact trivial; simp only [List.setIfInBounds_toArray, List.set_cons_succ, List.set_cons_zero]
  (apply reg_take 3 rfl rfl (by decide +kernel) rfl); (intro w' _; go_simp; rfl); exact trivial; simp only [List.setIfInBounds_toArray, List.set_cons_succ, List.set_cons_zero]
  refine reg_take 4 (v := .int .u8 (c5.toNat : Int)) rfl rfl (by decide +kernel) rfl (fun w' _ => by rw [← X5.out]; exact exec_str_index (i := 5) rfl Tryz.underlying9 rfl rfl (by rw [HS.out]; decide)) trivial ?_; simp only [List.setIfInBounds_toArray, List.set_cons_succ, List.set_cons_zero]
  (apply reg_take 5 rfl rfl (by decide +kernel) rfl); (intro w' _; go_simp; rfl); exact trivial; simp only [List.setIfInBounds_toArray, List.set_cons_succ, List.set_cons_zero]
  (apply reg_take 6 rfl rfl (by decide +kernel) rfl); (intro w' _; go_simp; rfl); exact trivial; simp only [List.setIfInBounds_toArray, List.set_cons_succ, List.set_cons_zero]
  refine reg_take 7 (v := .string (strB (subL s 6 8))) rfl rfl (by decide +kernel) rfl (fun w' _ => exec_str_slice (i := 6) (j := 8) rfl Tryz.underlying9 rfl rfl rfl (by decide) (by rw [HS.out]; decide)) trivial ?_; simp only [List.setIfInBounds_toArray, List.set_cons_succ, List.set_cons_zero]
  refine reg_takeq 8 (f := 147) (args := #[.string (strB (subL s 6 8))]) (v := .int .i64 (getM (subL s 6 8) : Int)) rfl rfl (by decide +kernel) rfl (fun w' => by kernel_rfl) (fun w' _ => get_any _ (by simp [subL]; omega) w') trivial ?_
  simp only [List.setIfInBounds_toArray, List.set_cons_succ, List.set_cons_zero]
  (apply reg_take 9 rfl rfl (by decide +kernel) rfl); (intro w' _; go_simp; rfl); exact trivial; simp only [List.setIfInBounds_toArray, List.set_cons_succ, List.set_cons_zero]
  refine reg_run 10 (.pointer (some ⟨w1.heap.size, 0, none⟩)) (w1.drew.alloc (.cells zPl TPl)) rfl rfl (by decide +kernel) rfl (exec_alloc_zero rfl _ (zeroPl _)) (trivial) ?_; simp only [List.setIfInBounds_toArray, List.set_cons_succ, List.set_cons_zero]
  have hn : ∀ A G : Int, True := fun _ _ => trivial
  refine reg_do_last 11 (w1.drew.alloc (.cells #[.int .i64 (c5.toNat : Int), .int .i64 (c4.toNat : Int), .int .i64 (getM (subL s 6 8) : Int)] TPl)) rfl rfl (by decide +kernel) rfl (exec_store_fresh rfl TPl _ _ rfl rfl (infoPl rfl) rfl (by simp [Value.oneCell'])) ?_
  replace H1 := Lib.hid (And.intro (H1.out.1.drew.alloc (.cells #[.int .i64 (c5.toNat : Int), .int .i64 (c4.toNat : Int), .int .i64 (getM (subL s 6 8) : Int)] TPl)) (H1.out.2.drew.alloc (.cells #[.int .i64 (c5.toNat : Int), .int .i64 (c4.toNat : Int), .int .i64 (getM (subL s 6 8) : Int)] TPl)))
  generalize w1.drew.alloc (.cells #[.int .i64 (c5.toNat : Int), .int .i64 (c4.toNat : Int), .int .i64 (getM (subL s 6 8) : Int)] TPl) = w2 at H1 ⊢
  rw [show w1.drew.heap.size = w1.heap.size from rfl] at H1
  generalize w1.heap.size = C at H1 ⊢
  go_upto_region 4 with (fail)
  clear k4 k5 hn
  refine reg_begin (fun _ => True) (by kernel_rfl) ?_
  (apply reg_take 0 rfl rfl (by decide +kernel) rfl); (intro w' _; go_simp; rfl); exact trivial; simp only [List.setIfInBounds_toArray, List.set_cons_succ, List.set_cons_zero]
  refine reg_take 1 (v := .string (strB (subL s 8 12))) rfl rfl (by decide +kernel) rfl (fun w' _ => exec_str_slice (i := 8) (j := 12) rfl Tryz.underlying9 rfl rfl rfl (by decide) (by rw [HS.out]; decide)) trivial ?_; simp only [List.setIfInBounds_toArray, List.set_cons_succ, List.set_cons_zero]
  refine reg_takeq 2 (f := 147) (args := #[.string (strB (subL s 8 12))]) (v := .int .i64 (getM (subL s 8 12) : Int)) rfl rfl (by decide +kernel) rfl (fun w' => by kernel_rfl) (fun w' _ => get_any _ (by simp [subL]; omega) w') trivial ?_
  simp only [List.setIfInBounds_toArray, List.set_cons_succ, List.set_cons_zero]
  (apply reg_take 3 rfl rfl (by decide +kernel) rfl); (intro w' _; go_simp; rfl); exact trivial; simp only [List.setIfInBounds_toArray, List.set_cons_succ, List.set_cons_zero]
  refine reg_take 4 (v := .string (strB (subL s 12 16))) rfl rfl (by decide +kernel) rfl (fun w' _ => exec_str_slice (i := 12) (j := 16) rfl Tryz.underlying9 rfl rfl rfl (by decide) (by rw [HS.out]; decide)) trivial ?_; simp only [List.setIfInBounds_toArray, List.set_cons_succ, List.set_cons_zero]
  refine reg_takeq 5 (f := 147) (args := #[.string (strB (subL s 12 16))]) (v := .int .i64 (getM (subL s 12 16) : Int)) rfl rfl (by decide +kernel) rfl (fun w' => by kernel_rfl) (fun w' _ => get_any _ (by simp [subL]; omega) w') trivial ?_
  simp only [List.setIfInBounds_toArray, List.set_cons_succ, List.set_cons_zero]
  (apply reg_take 6 rfl rfl (by decide +kernel) rfl); (intro w' _; go_simp; rfl); exact trivial; simp only [List.setIfInBounds_toArray, List.set_cons_succ, List.set_cons_zero]
  refine reg_run 7 (.pointer (some ⟨w2.heap.size, 0, none⟩)) (w2.drew.alloc (.cells zGen TGen)) rfl rfl (by decide +kernel) rfl (exec_alloc_zero rfl _ (zeroGen _)) (trivial) ?_; simp only [List.setIfInBounds_toArray, List.set_cons_succ, List.set_cons_zero]
  refine reg_do_last 8 (w2.drew.alloc (.cells #[.int .i64 (getM (subL s 8 12) : Int), .int .i64 (getM (subL s 12 16) : Int)] TGen)) rfl rfl (by decide +kernel) rfl (exec_store_fresh rfl TGen _ _ rfl rfl (infoGen rfl) rfl (by simp [Value.oneCell'])) ?_
  replace H1 := Lib.hid (And.intro (H1.out.1.drew.alloc (.cells #[.int .i64 (getM (subL s 8 12) : Int), .int .i64 (getM (subL s 12 16) : Int)] TGen)) (H1.out.2.drew.alloc (.cells #[.int .i64 (getM (subL s 8 12) : Int), .int .i64 (getM (subL s 12 16) : Int)] TGen)))
  generalize w2.drew.alloc (.cells #[.int .i64 (getM (subL s 8 12) : Int), .int .i64 (getM (subL s 12 16) : Int)] TGen) = w3 at H1 ⊢
  rw [show w2.drew.heap.size = w2.heap.size from rfl] at H1
  generalize w2.heap.size = D at H1 ⊢
  go_upto_region 5 with (fail)
  refine reg_begin (fun _ => True) (by kernel_rfl) ?_
  (apply reg_take 0 rfl rfl (by decide +kernel) rfl); (intro w' _; go_simp; rfl); exact trivial; simp only [List.setIfInBounds_toArray, List.set_cons_succ, List.set_cons_zero]
  refine reg_take 1 (v := .string (strB (subL s 8 16))) rfl rfl (by decide +kernel) rfl (fun w' _ => exec_str_slice (i := 8) (j := 16) rfl Tryz.underlying9 rfl rfl rfl (by decide) (by rw [HS.out]; decide)) trivial ?_; simp only [List.setIfInBounds_toArray, List.set_cons_succ, List.set_cons_zero]
  (apply reg_take 2 rfl rfl (by decide +kernel) rfl); (intro w' _; go_simp; rfl); exact trivial; simp only [List.setIfInBounds_toArray, List.set_cons_succ, List.set_cons_zero]
  refine reg_take 3 (v := .string (strB (s.drop 56))) rfl rfl (by decide +kernel) rfl (fun w' _ => exec_str_from (i := 56) rfl Tryz.underlying9 rfl rfl (by rw [HS.out]; decide)) trivial ?_; simp only [List.setIfInBounds_toArray, List.set_cons_succ, List.set_cons_zero]
  refine reg_take 4 (v := .bool (!decide (subL s 8 16 = s.drop 56))) rfl rfl (by decide +kernel) rfl (fun w' _ => exec_str_neq rfl rfl rfl rfl) trivial ?_; simp only [List.setIfInBounds_toArray, List.set_cons_succ, List.set_cons_zero]
  (apply reg_take 5 rfl rfl (by decide +kernel) rfl); (intro w' _; go_simp; rfl); exact trivial; simp only [List.setIfInBounds_toArray, List.set_cons_succ, List.set_cons_zero]
  refine reg_done (by decide +kernel) ?_
  replace H1 := Lib.hid (And.intro H1.out.1.drew H1.out.2.drew)
  go_upto_region 6 with (fail)
  generalize w3.drew = w4 at H1 ⊢
  obtain ⟨row, fr, cap, hrun, hrow⟩ := str_bytes (s.drop 4) w4.drew
  have hSr := H1.out.2.drew.drew.alloc (.cells row TByte fr)
  obtain ⟨g, hg⟩ : ∃ g, w4.drew.heap.size = g := ⟨_, rfl⟩
  rw [show w4.drew.drew.heap.size = g from hg] at hSr
  rw [hg] at hrun
  have hof : ∀ (W : World) (X : HProp), Sat W (pts g (.cells row TByte fr) * X) → Calls Tryz.prog 137 #[.slice (some ⟨g, 0, none⟩) (s.drop 4).length cap] W fun e w' => e = .returned (u32V (crcM (s.drop 4))) ∧ Hid (Same W w' ∧ Sat w' (pts g (.cells row TByte fr) * X)) := fun W X h =>
    of_any (.slice (some ⟨g, 0, none⟩) (s.drop 4).length cap) (s.drop 4) _ W h (fun W' h' => ⟨_, _, rfl, fun _ => ⟨g, 0, rfl, fun j x hx => by
      rw [Nat.zero_add, cells_at h'.block]
      exact hrow j _ (by rw [secL, List.getElem?_map, hx]; rfl)⟩⟩) (by rw [List.length_drop, HS.out]; decide)
  have hlab : labelOK s = (decide (getM (subL s 0 4) = (crcM (s.drop 4)).toNat) && placeOK (placeAt s) && genOK (genAt s 8) && decide (subL s 8 16 = s.drop 56)) := rfl
  rw [HA.out, HG.out] at hlab
  generalize decide (subL s 8 16 = s.drop 56) = b4 at hlab ⊢
  have hcl := (crcM (s.drop 4)).toNat_lt
  have hgl := getM_lt (subL s 0 4)
  unfold u32V at hof
  generalize (crcM (s.drop 4)).toNat = c at hof hlab hcl
  have HOF := Lib.hid hof
  have HRUN := Lib.hid hrun
  have HSR := Lib.hid hSr
  have kc : IntKind.i64.wrap (c : Int) = (c : Int) := IntWalk.i64_in _ (by omega)
  have HL4 := Lib.hid (show getM (subL s 0 4) = getM (s.take 4) by simp [subL])
  have hS0 := lab_cells H1.out.2.drew
  have hS5 := lab_cells HSR.out.right
  have hva := fun W => valid_any ⟨(c5.toNat : Int), (c4.toNat : Int), (getM (subL s 6 8) : Int)⟩ W
  have hvg := fun W => validGen_any ⟨(getM (subL s 8 12) : Int), (getM (subL s 12 16) : Int)⟩ W
  clear hSr hrun hof hrow hg hgl hcl hsz
  refine reg_begin (fun w' => w'.cell? ⟨C, 0, none⟩ = some (.int .i64 (c5.toNat : Int)) ∧ w'.cell? ⟨C, 1, none⟩ = some (.int .i64 (c4.toNat : Int)) ∧ w'.cell? ⟨C, 2, none⟩ = some (.int .i64 (getM (subL s 6 8) : Int)) ∧ w'.cell? ⟨D, 0, none⟩ = some (.int .i64 (getM (subL s 8 12) : Int)) ∧ w'.cell? ⟨D, 1, none⟩ = some (.int .i64 (getM (subL s 12 16) : Int))) (by kernel_rfl) ?_
  (apply reg_take 0 rfl rfl (by decide +kernel) rfl); (intro w' _; go_simp; rfl); exact hS0; simp only [List.setIfInBounds_toArray, List.set_cons_succ, List.set_cons_zero]
  refine reg_take 1 (v := .string (strB (s.take 4))) rfl rfl (by decide +kernel) rfl (fun w' _ => exec_str_to (j := 4) rfl Tryz.underlying9 rfl rfl (by rw [HS.out]; decide)) hS0 ?_; simp only [List.setIfInBounds_toArray, List.set_cons_succ, List.set_cons_zero]
  refine reg_takeq 2 (f := 147) (args := #[.string (strB (s.take 4))]) (v := .int .i64 (getM (s.take 4) : Int)) rfl rfl (by decide +kernel) rfl (fun w' => by kernel_rfl) (fun w' _ => get_any _ (by simp; omega) w') hS0 ?_
  simp only [List.setIfInBounds_toArray, List.set_cons_succ, List.set_cons_zero]
  (apply reg_take 3 rfl rfl (by decide +kernel) rfl); (intro w' _; go_simp; rfl); exact hS0; simp only [List.setIfInBounds_toArray, List.set_cons_succ, List.set_cons_zero]
  refine reg_take 4 (v := .string (strB (s.drop 4))) rfl rfl (by decide +kernel) rfl (fun w' _ => exec_str_from (i := 4) rfl Tryz.underlying9 rfl rfl (by rw [HS.out]; decide)) hS0 ?_; simp only [List.setIfInBounds_toArray, List.set_cons_succ, List.set_cons_zero]
  refine reg_run 5 (.slice (some ⟨g, 0, none⟩) (s.drop 4).length cap) (w4.drew.drew.alloc (.cells row TByte fr)) rfl rfl (by decide +kernel) rfl (exec_convert rfl rfl HRUN.out) (hS5) ?_; simp only [List.setIfInBounds_toArray, List.set_cons_succ, List.set_cons_zero]
  have H3 := Lib.hid (And.intro (H1.out.1.drew.drew.alloc (.cells row TByte fr)) HSR.out)
  clear HSR HRUN H1
  generalize w4.drew.drew.alloc (.cells row TByte fr) = w5 at H3 hS5 ⊢
  refine reg_call 6 rfl rfl (by decide +kernel) rfl (f := 137) (args := #[.slice (some ⟨g, 0, none⟩) (s.drop 4).length cap]) (R := fun v w' => v = .int .u32 (c : Int) ∧ Hid (Same w5 w' ∧ Sat w' _)) (by kernel_rfl) ((HOF.out w5 _ H3.out.2).mono fun e w' h => ⟨_, h.1, rfl, h.2⟩) ?_
  rintro _ w6 ⟨rfl, h6⟩
  have H1 := Lib.hid (And.intro (H3.out.1.trans h6.out.1) h6.out.2.right)
  clear H3 h6 hS0 hS5
  have hS0 := lab_cells H1.out.2
  refine ⟨hS0, ?_⟩
  simp only [List.setIfInBounds_toArray, List.set_cons_succ, List.set_cons_zero]
  (apply reg_take 7 rfl rfl (by decide +kernel) rfl); (intro w' _; go_simp; rfl); exact hS0; simp only [List.setIfInBounds_toArray, List.set_cons_succ, List.set_cons_zero]
  rw [HL4.out] at hlab
  have HLAB := Lib.hid hlab
  have hcells := Lib.hid (show ∀ W, Sat W _ → _ from fun W h => lab_cells (X := pts B (.cells zPl TPl (0, 0)) * (pts (B + 1) (.cells zGen TGen (0, 0)) * F)) (w := W) (D := D) (C := C) (p := (c5.toNat : Int)) (q := (c4.toNat : Int)) (r := (getM (subL s 6 8) : Int)) (g := (getM (subL s 8 12) : Int)) (h := (getM (subL s 12 16) : Int)) h)
  clear hlab
  cases hb1 : decide (getM (s.take 4) = c)
  · have hne : getM (s.take 4) ≠ c := by simpa using hb1
    refine reg_take 8 (v := .bool true) rfl rfl (by decide +kernel) rfl (fun w' _ => exec_binop rfl rfl rfl rfl (by simp [go_sem]; omega)) hS0 ?_; simp only [List.setIfInBounds_toArray, List.set_cons_succ, List.set_cons_zero]
    (apply reg_take 9 rfl rfl (by decide +kernel) rfl); (rintro w' ⟨h1, h2, h3, h4, h5⟩; go_simp; rfl); exact hS0; simp only [List.setIfInBounds_toArray, List.set_cons_succ, List.set_cons_zero]
    (apply reg_skip 10 rfl rfl (by decide +kernel) rfl); exact hS0; simp only [List.setIfInBounds_toArray, List.set_cons_succ, List.set_cons_zero]
    (apply reg_skip 11 rfl rfl (by decide +kernel) rfl); exact hS0; simp only [List.setIfInBounds_toArray, List.set_cons_succ, List.set_cons_zero]
    (apply reg_skip 12 rfl rfl (by decide +kernel) rfl); exact hS0; simp only [List.setIfInBounds_toArray, List.set_cons_succ, List.set_cons_zero]
    (apply reg_take 13 rfl rfl (by decide +kernel) rfl); (rintro w' ⟨h1, h2, h3, h4, h5⟩; go_simp; rfl); exact hS0; simp only [List.setIfInBounds_toArray, List.set_cons_succ, List.set_cons_zero]
    (apply reg_take 14 rfl rfl (by decide +kernel) rfl); (rintro w' ⟨h1, h2, h3, h4, h5⟩; go_simp; rfl); exact hS0; simp only [List.setIfInBounds_toArray, List.set_cons_succ, List.set_cons_zero]
    (apply reg_skip 15 rfl rfl (by decide +kernel) rfl); exact hS0; simp only [List.setIfInBounds_toArray, List.set_cons_succ, List.set_cons_zero]
    (apply reg_skip 16 rfl rfl (by decide +kernel) rfl); exact hS0; simp only [List.setIfInBounds_toArray, List.set_cons_succ, List.set_cons_zero]
    (apply reg_skip 17 rfl rfl (by decide +kernel) rfl); exact hS0; simp only [List.setIfInBounds_toArray, List.set_cons_succ, List.set_cons_zero]
    (apply reg_take 18 rfl rfl (by decide +kernel) rfl); (rintro w' ⟨h1, h2, h3, h4, h5⟩; go_simp; rfl); exact hS0; simp only [List.setIfInBounds_toArray, List.set_cons_succ, List.set_cons_zero]
    (apply reg_take 19 rfl rfl (by decide +kernel) rfl); (rintro w' ⟨h1, h2, h3, h4, h5⟩; go_simp; rfl); exact hS0; simp only [List.setIfInBounds_toArray, List.set_cons_succ, List.set_cons_zero]
    (apply reg_skip 20 rfl rfl (by decide +kernel) rfl); exact hS0; simp only [List.setIfInBounds_toArray, List.set_cons_succ, List.set_cons_zero]
    (apply reg_take 21 rfl rfl (by decide +kernel) rfl); (rintro w' ⟨h1, h2, h3, h4, h5⟩; go_simp; rfl); exact hS0; simp only [List.setIfInBounds_toArray, List.set_cons_succ, List.set_cons_zero]
    refine reg_done (by decide +kernel) ?_
    have HP := Lib.hid (show labP s = ⟨0, 0, 0⟩ ∧ labG s = g0 ∧ labE s = 7 from by have e := HLAB.out; simp only [hb1, Bool.false_and] at e; unfold labP labG labE; rw [e]; exact ⟨rfl, rfl, rfl⟩)
    replace H1 := Lib.hid (And.intro H1.out.1 (H1.out.2.perm (show _ = pts B (.cells zPl TPl (0, 0)) * (pts (B + 1) (.cells zGen TGen (0, 0)) * (pts D (.cells #[.int .i64 (getM (subL s 8 12) : Int), .int .i64 (getM (subL s 12 16) : Int)] TGen (0, 0)) * (pts C (.cells #[.int .i64 (c5.toNat : Int), .int .i64 (c4.toNat : Int), .int .i64 (getM (subL s 6 8) : Int)] TPl (0, 0)) * F))) from by ac_rfl)))
    clear hS0 kc hb1 hva hvg hne
    obtain ⟨⟨b0, b1, b2, b3, b4'⟩, f0, f1, f2, f3, f4⟩ := bad_cells H1.out.2
    go_wp2
    replace H1 := Lib.hid (bad_store H1.out.1 H1.out.2)
    refine bodyPost_ret (v := .tuple #[.agg zPl, .agg zGen, .int .i64 7]) (results3 Tryz.results122 (ResIs.row rfl H1.out.2.block Tryz.underlying37 rfl (infoPl rfl)) (ResIs.row rfl H1.out.2.right.block Tryz.underlying42 rfl (infoGen rfl)) (.tmp rfl)) rfl ?_
    exact ⟨by rw [HP.out.1, HP.out.2.1, HP.out.2.2]; rfl, H1.out.1, H1.out.2.right.right.right.right⟩
  cases hb2 : placeOK ⟨(c5.toNat : Int), (c4.toNat : Int), (getM (subL s 6 8) : Int)⟩
  · rw [hb2] at hva
    have hne : getM (s.take 4) = c := by simpa using hb1
    refine reg_take 8 (v := .bool false) rfl rfl (by decide +kernel) rfl (fun w' _ => exec_binop rfl rfl rfl rfl (by simp [go_sem, hne])) hS0 ?_; simp only [List.setIfInBounds_toArray, List.set_cons_succ, List.set_cons_zero]
    (apply reg_take 9 rfl rfl (by decide +kernel) rfl); (rintro w' ⟨h1, h2, h3, h4, h5⟩; go_simp; rfl); exact hS0; simp only [List.setIfInBounds_toArray, List.set_cons_succ, List.set_cons_zero]
    (apply reg_take 10 rfl rfl (by decide +kernel) rfl); (rintro w' ⟨h1, h2, h3, h4, h5⟩; go_simp; rfl); exact hS0; simp only [List.setIfInBounds_toArray, List.set_cons_succ, List.set_cons_zero]
    refine reg_call 11 rfl rfl (by decide +kernel) rfl (f := 121) (args := #[.agg (plA ⟨(c5.toNat : Int), (c4.toNat : Int), (getM (subL s 6 8) : Int)⟩)]) (R := fun v w' => v = .bool false ∧ Hid (Below w6.heap.size w6 w')) (by kernel_rfl) ((hva w6).mono fun e w' h => ⟨_, h.1, rfl, h.2⟩) ?_
    rintro _ w7 ⟨rfl, hb⟩
    replace H1 := Lib.hid (And.intro (H1.out.1.below hb.out) (H1.out.2.below hb.out))
    replace hS0 := hcells.out _ H1.out.2
    refine ⟨hS0, ?_⟩
    simp only [List.setIfInBounds_toArray, List.set_cons_succ, List.set_cons_zero]
    clear hb
    (apply reg_take 12 rfl rfl (by decide +kernel) rfl); (rintro w' ⟨h1, h2, h3, h4, h5⟩; go_simp; rfl); exact hS0; simp only [List.setIfInBounds_toArray, List.set_cons_succ, List.set_cons_zero]
    (apply reg_take 13 rfl rfl (by decide +kernel) rfl); (rintro w' ⟨h1, h2, h3, h4, h5⟩; go_simp; rfl); exact hS0; simp only [List.setIfInBounds_toArray, List.set_cons_succ, List.set_cons_zero]
    (apply reg_take 14 rfl rfl (by decide +kernel) rfl); (rintro w' ⟨h1, h2, h3, h4, h5⟩; go_simp; rfl); exact hS0; simp only [List.setIfInBounds_toArray, List.set_cons_succ, List.set_cons_zero]
    (apply reg_skip 15 rfl rfl (by decide +kernel) rfl); exact hS0; simp only [List.setIfInBounds_toArray, List.set_cons_succ, List.set_cons_zero]
    (apply reg_skip 16 rfl rfl (by decide +kernel) rfl); exact hS0; simp only [List.setIfInBounds_toArray, List.set_cons_succ, List.set_cons_zero]
    (apply reg_skip 17 rfl rfl (by decide +kernel) rfl); exact hS0; simp only [List.setIfInBounds_toArray, List.set_cons_succ, List.set_cons_zero]
    (apply reg_take 18 rfl rfl (by decide +kernel) rfl); (rintro w' ⟨h1, h2, h3, h4, h5⟩; go_simp; rfl); exact hS0; simp only [List.setIfInBounds_toArray, List.set_cons_succ, List.set_cons_zero]
    (apply reg_take 19 rfl rfl (by decide +kernel) rfl); (rintro w' ⟨h1, h2, h3, h4, h5⟩; go_simp; rfl); exact hS0; simp only [List.setIfInBounds_toArray, List.set_cons_succ, List.set_cons_zero]
    (apply reg_skip 20 rfl rfl (by decide +kernel) rfl); exact hS0; simp only [List.setIfInBounds_toArray, List.set_cons_succ, List.set_cons_zero]
    (apply reg_take 21 rfl rfl (by decide +kernel) rfl); (rintro w' ⟨h1, h2, h3, h4, h5⟩; go_simp; rfl); exact hS0; simp only [List.setIfInBounds_toArray, List.set_cons_succ, List.set_cons_zero]
    refine reg_done (by decide +kernel) ?_
    have HP := Lib.hid (show labP s = ⟨0, 0, 0⟩ ∧ labG s = g0 ∧ labE s = 7 from by have e := HLAB.out; simp only [hb1, hb2, Bool.false_and, Bool.and_false] at e; unfold labP labG labE; rw [e]; exact ⟨rfl, rfl, rfl⟩)
    replace H1 := Lib.hid (And.intro H1.out.1 (H1.out.2.perm (show _ = pts B (.cells zPl TPl (0, 0)) * (pts (B + 1) (.cells zGen TGen (0, 0)) * (pts D (.cells #[.int .i64 (getM (subL s 8 12) : Int), .int .i64 (getM (subL s 12 16) : Int)] TGen (0, 0)) * (pts C (.cells #[.int .i64 (c5.toNat : Int), .int .i64 (c4.toNat : Int), .int .i64 (getM (subL s 6 8) : Int)] TPl (0, 0)) * F))) from by ac_rfl)))
    clear hS0 kc hb1 hb2 hva hvg hne
    obtain ⟨⟨b0, b1, b2, b3, b4'⟩, f0, f1, f2, f3, f4⟩ := bad_cells H1.out.2
    go_wp2
    replace H1 := Lib.hid (bad_store H1.out.1 H1.out.2)
    refine bodyPost_ret (v := .tuple #[.agg zPl, .agg zGen, .int .i64 7]) (results3 Tryz.results122 (ResIs.row rfl H1.out.2.block Tryz.underlying37 rfl (infoPl rfl)) (ResIs.row rfl H1.out.2.right.block Tryz.underlying42 rfl (infoGen rfl)) (.tmp rfl)) rfl ?_
    exact ⟨by rw [HP.out.1, HP.out.2.1, HP.out.2.2]; rfl, H1.out.1, H1.out.2.right.right.right.right⟩
  rw [hb2] at hva
  cases hb3 : genOK ⟨(getM (subL s 8 12) : Int), (getM (subL s 12 16) : Int)⟩
  · rw [hb3] at hvg
    have hne : getM (s.take 4) = c := by simpa using hb1
    refine reg_take 8 (v := .bool false) rfl rfl (by decide +kernel) rfl (fun w' _ => exec_binop rfl rfl rfl rfl (by simp [go_sem, hne])) hS0 ?_; simp only [List.setIfInBounds_toArray, List.set_cons_succ, List.set_cons_zero]
    (apply reg_take 9 rfl rfl (by decide +kernel) rfl); (rintro w' ⟨h1, h2, h3, h4, h5⟩; go_simp; rfl); exact hS0; simp only [List.setIfInBounds_toArray, List.set_cons_succ, List.set_cons_zero]
    (apply reg_take 10 rfl rfl (by decide +kernel) rfl); (rintro w' ⟨h1, h2, h3, h4, h5⟩; go_simp; rfl); exact hS0; simp only [List.setIfInBounds_toArray, List.set_cons_succ, List.set_cons_zero]
    refine reg_call 11 rfl rfl (by decide +kernel) rfl (f := 121) (args := #[.agg (plA ⟨(c5.toNat : Int), (c4.toNat : Int), (getM (subL s 6 8) : Int)⟩)]) (R := fun v w' => v = .bool true ∧ Hid (Below w6.heap.size w6 w')) (by kernel_rfl) ((hva w6).mono fun e w' h => ⟨_, h.1, rfl, h.2⟩) ?_
    rintro _ w7 ⟨rfl, hb⟩
    replace H1 := Lib.hid (And.intro (H1.out.1.below hb.out) (H1.out.2.below hb.out))
    replace hS0 := hcells.out _ H1.out.2
    refine ⟨hS0, ?_⟩
    simp only [List.setIfInBounds_toArray, List.set_cons_succ, List.set_cons_zero]
    clear hb
    (apply reg_take 12 rfl rfl (by decide +kernel) rfl); (rintro w' ⟨h1, h2, h3, h4, h5⟩; go_simp; rfl); exact hS0; simp only [List.setIfInBounds_toArray, List.set_cons_succ, List.set_cons_zero]
    (apply reg_take 13 rfl rfl (by decide +kernel) rfl); (rintro w' ⟨h1, h2, h3, h4, h5⟩; go_simp; rfl); exact hS0; simp only [List.setIfInBounds_toArray, List.set_cons_succ, List.set_cons_zero]
    (apply reg_take 14 rfl rfl (by decide +kernel) rfl); (rintro w' ⟨h1, h2, h3, h4, h5⟩; go_simp; rfl); exact hS0; simp only [List.setIfInBounds_toArray, List.set_cons_succ, List.set_cons_zero]
    (apply reg_take 15 rfl rfl (by decide +kernel) rfl); (rintro w' ⟨h1, h2, h3, h4, h5⟩; go_simp; rfl); exact hS0; simp only [List.setIfInBounds_toArray, List.set_cons_succ, List.set_cons_zero]
    refine reg_call 16 rfl rfl (by decide +kernel) rfl (f := 134) (args := #[.agg (genA ⟨(getM (subL s 8 12) : Int), (getM (subL s 12 16) : Int)⟩)]) (R := fun v w' => v = .bool false ∧ Hid (Below w7.heap.size w7 w')) (by kernel_rfl) ((hvg w7).mono fun e w' h => ⟨_, h.1, rfl, h.2⟩) ?_
    rintro _ w8 ⟨rfl, hb⟩
    replace H1 := Lib.hid (And.intro (H1.out.1.below hb.out) (H1.out.2.below hb.out))
    replace hS0 := hcells.out _ H1.out.2
    refine ⟨hS0, ?_⟩
    simp only [List.setIfInBounds_toArray, List.set_cons_succ, List.set_cons_zero]
    clear hb
    (apply reg_take 17 rfl rfl (by decide +kernel) rfl); (rintro w' ⟨h1, h2, h3, h4, h5⟩; go_simp; rfl); exact hS0; simp only [List.setIfInBounds_toArray, List.set_cons_succ, List.set_cons_zero]
    (apply reg_take 18 rfl rfl (by decide +kernel) rfl); (rintro w' ⟨h1, h2, h3, h4, h5⟩; go_simp; rfl); exact hS0; simp only [List.setIfInBounds_toArray, List.set_cons_succ, List.set_cons_zero]
    (apply reg_take 19 rfl rfl (by decide +kernel) rfl); (rintro w' ⟨h1, h2, h3, h4, h5⟩; go_simp; rfl); exact hS0; simp only [List.setIfInBounds_toArray, List.set_cons_succ, List.set_cons_zero]
    (apply reg_skip 20 rfl rfl (by decide +kernel) rfl); exact hS0; simp only [List.setIfInBounds_toArray, List.set_cons_succ, List.set_cons_zero]
    (apply reg_take 21 rfl rfl (by decide +kernel) rfl); (rintro w' ⟨h1, h2, h3, h4, h5⟩; go_simp; rfl); exact hS0; simp only [List.setIfInBounds_toArray, List.set_cons_succ, List.set_cons_zero]
    refine reg_done (by decide +kernel) ?_
    have HP := Lib.hid (show labP s = ⟨0, 0, 0⟩ ∧ labG s = g0 ∧ labE s = 7 from by have e := HLAB.out; simp only [hb1, hb2, hb3, Bool.false_and, Bool.true_and, Bool.and_false] at e; unfold labP labG labE; rw [e]; exact ⟨rfl, rfl, rfl⟩)
    replace H1 := Lib.hid (And.intro H1.out.1 (H1.out.2.perm (show _ = pts B (.cells zPl TPl (0, 0)) * (pts (B + 1) (.cells zGen TGen (0, 0)) * (pts D (.cells #[.int .i64 (getM (subL s 8 12) : Int), .int .i64 (getM (subL s 12 16) : Int)] TGen (0, 0)) * (pts C (.cells #[.int .i64 (c5.toNat : Int), .int .i64 (c4.toNat : Int), .int .i64 (getM (subL s 6 8) : Int)] TPl (0, 0)) * F))) from by ac_rfl)))
    clear hS0 kc hb1 hb2 hb3 hva hvg hne
    obtain ⟨⟨b0, b1, b2, b3, b4'⟩, f0, f1, f2, f3, f4⟩ := bad_cells H1.out.2
    go_wp2
    replace H1 := Lib.hid (bad_store H1.out.1 H1.out.2)
    refine bodyPost_ret (v := .tuple #[.agg zPl, .agg zGen, .int .i64 7]) (results3 Tryz.results122 (ResIs.row rfl H1.out.2.block Tryz.underlying37 rfl (infoPl rfl)) (ResIs.row rfl H1.out.2.right.block Tryz.underlying42 rfl (infoGen rfl)) (.tmp rfl)) rfl ?_
    exact ⟨by rw [HP.out.1, HP.out.2.1, HP.out.2.2]; rfl, H1.out.1, H1.out.2.right.right.right.right⟩
  rw [hb3] at hvg
  cases b4
  · have hne : getM (s.take 4) = c := by simpa using hb1
    refine reg_take 8 (v := .bool false) rfl rfl (by decide +kernel) rfl (fun w' _ => exec_binop rfl rfl rfl rfl (by simp [go_sem, hne])) hS0 ?_; simp only [List.setIfInBounds_toArray, List.set_cons_succ, List.set_cons_zero]
    (apply reg_take 9 rfl rfl (by decide +kernel) rfl); (rintro w' ⟨h1, h2, h3, h4, h5⟩; go_simp; rfl); exact hS0; simp only [List.setIfInBounds_toArray, List.set_cons_succ, List.set_cons_zero]
    (apply reg_take 10 rfl rfl (by decide +kernel) rfl); (rintro w' ⟨h1, h2, h3, h4, h5⟩; go_simp; rfl); exact hS0; simp only [List.setIfInBounds_toArray, List.set_cons_succ, List.set_cons_zero]
    refine reg_call 11 rfl rfl (by decide +kernel) rfl (f := 121) (args := #[.agg (plA ⟨(c5.toNat : Int), (c4.toNat : Int), (getM (subL s 6 8) : Int)⟩)]) (R := fun v w' => v = .bool true ∧ Hid (Below w6.heap.size w6 w')) (by kernel_rfl) ((hva w6).mono fun e w' h => ⟨_, h.1, rfl, h.2⟩) ?_
    rintro _ w7 ⟨rfl, hb⟩
    replace H1 := Lib.hid (And.intro (H1.out.1.below hb.out) (H1.out.2.below hb.out))
    replace hS0 := hcells.out _ H1.out.2
    refine ⟨hS0, ?_⟩
    simp only [List.setIfInBounds_toArray, List.set_cons_succ, List.set_cons_zero]
    clear hb
    (apply reg_take 12 rfl rfl (by decide +kernel) rfl); (rintro w' ⟨h1, h2, h3, h4, h5⟩; go_simp; rfl); exact hS0; simp only [List.setIfInBounds_toArray, List.set_cons_succ, List.set_cons_zero]
    (apply reg_take 13 rfl rfl (by decide +kernel) rfl); (rintro w' ⟨h1, h2, h3, h4, h5⟩; go_simp; rfl); exact hS0; simp only [List.setIfInBounds_toArray, List.set_cons_succ, List.set_cons_zero]
    (apply reg_take 14 rfl rfl (by decide +kernel) rfl); (rintro w' ⟨h1, h2, h3, h4, h5⟩; go_simp; rfl); exact hS0; simp only [List.setIfInBounds_toArray, List.set_cons_succ, List.set_cons_zero]
    (apply reg_take 15 rfl rfl (by decide +kernel) rfl); (rintro w' ⟨h1, h2, h3, h4, h5⟩; go_simp; rfl); exact hS0; simp only [List.setIfInBounds_toArray, List.set_cons_succ, List.set_cons_zero]
    refine reg_call 16 rfl rfl (by decide +kernel) rfl (f := 134) (args := #[.agg (genA ⟨(getM (subL s 8 12) : Int), (getM (subL s 12 16) : Int)⟩)]) (R := fun v w' => v = .bool true ∧ Hid (Below w7.heap.size w7 w')) (by kernel_rfl) ((hvg w7).mono fun e w' h => ⟨_, h.1, rfl, h.2⟩) ?_
    rintro _ w8 ⟨rfl, hb⟩
    replace H1 := Lib.hid (And.intro (H1.out.1.below hb.out) (H1.out.2.below hb.out))
    replace hS0 := hcells.out _ H1.out.2
    refine ⟨hS0, ?_⟩
    simp only [List.setIfInBounds_toArray, List.set_cons_succ, List.set_cons_zero]
    clear hb
    (apply reg_take 17 rfl rfl (by decide +kernel) rfl); (rintro w' ⟨h1, h2, h3, h4, h5⟩; go_simp; rfl); exact hS0; simp only [List.setIfInBounds_toArray, List.set_cons_succ, List.set_cons_zero]
    (apply reg_take 18 rfl rfl (by decide +kernel) rfl); (rintro w' ⟨h1, h2, h3, h4, h5⟩; go_simp; rfl); exact hS0; simp only [List.setIfInBounds_toArray, List.set_cons_succ, List.set_cons_zero]
    (apply reg_take 19 rfl rfl (by decide +kernel) rfl); (rintro w' ⟨h1, h2, h3, h4, h5⟩; go_simp; rfl); exact hS0; simp only [List.setIfInBounds_toArray, List.set_cons_succ, List.set_cons_zero]
    (apply reg_take 20 rfl rfl (by decide +kernel) rfl); (rintro w' ⟨h1, h2, h3, h4, h5⟩; go_simp; rfl); exact hS0; simp only [List.setIfInBounds_toArray, List.set_cons_succ, List.set_cons_zero]
    (apply reg_take 21 rfl rfl (by decide +kernel) rfl); (rintro w' ⟨h1, h2, h3, h4, h5⟩; go_simp; rfl); exact hS0; simp only [List.setIfInBounds_toArray, List.set_cons_succ, List.set_cons_zero]
    refine reg_done (by decide +kernel) ?_
    have HP := Lib.hid (show labP s = ⟨0, 0, 0⟩ ∧ labG s = g0 ∧ labE s = 7 from by have e := HLAB.out; simp only [hb1, hb2, hb3, Bool.true_and, Bool.and_false] at e; unfold labP labG labE; rw [e]; exact ⟨rfl, rfl, rfl⟩)
    replace H1 := Lib.hid (And.intro H1.out.1 (H1.out.2.perm (show _ = pts B (.cells zPl TPl (0, 0)) * (pts (B + 1) (.cells zGen TGen (0, 0)) * (pts D (.cells #[.int .i64 (getM (subL s 8 12) : Int), .int .i64 (getM (subL s 12 16) : Int)] TGen (0, 0)) * (pts C (.cells #[.int .i64 (c5.toNat : Int), .int .i64 (c4.toNat : Int), .int .i64 (getM (subL s 6 8) : Int)] TPl (0, 0)) * F))) from by ac_rfl)))
    clear hS0 kc hb1 hb2 hb3 hva hvg hne
    obtain ⟨⟨b0, b1, b2, b3, b4'⟩, f0, f1, f2, f3, f4⟩ := bad_cells H1.out.2
    go_wp2
    replace H1 := Lib.hid (bad_store H1.out.1 H1.out.2)
    refine bodyPost_ret (v := .tuple #[.agg zPl, .agg zGen, .int .i64 7]) (results3 Tryz.results122 (ResIs.row rfl H1.out.2.block Tryz.underlying37 rfl (infoPl rfl)) (ResIs.row rfl H1.out.2.right.block Tryz.underlying42 rfl (infoGen rfl)) (.tmp rfl)) rfl ?_
    exact ⟨by rw [HP.out.1, HP.out.2.1, HP.out.2.2]; rfl, H1.out.1, H1.out.2.right.right.right.right⟩
  · have hne : getM (s.take 4) = c := by simpa using hb1
    refine reg_take 8 (v := .bool false) rfl rfl (by decide +kernel) rfl (fun w' _ => exec_binop rfl rfl rfl rfl (by simp [go_sem, hne])) hS0 ?_; simp only [List.setIfInBounds_toArray, List.set_cons_succ, List.set_cons_zero]
    (apply reg_take 9 rfl rfl (by decide +kernel) rfl); (rintro w' ⟨h1, h2, h3, h4, h5⟩; go_simp; rfl); exact hS0; simp only [List.setIfInBounds_toArray, List.set_cons_succ, List.set_cons_zero]
    (apply reg_take 10 rfl rfl (by decide +kernel) rfl); (rintro w' ⟨h1, h2, h3, h4, h5⟩; go_simp; rfl); exact hS0; simp only [List.setIfInBounds_toArray, List.set_cons_succ, List.set_cons_zero]
    refine reg_call 11 rfl rfl (by decide +kernel) rfl (f := 121) (args := #[.agg (plA ⟨(c5.toNat : Int), (c4.toNat : Int), (getM (subL s 6 8) : Int)⟩)]) (R := fun v w' => v = .bool true ∧ Hid (Below w6.heap.size w6 w')) (by kernel_rfl) ((hva w6).mono fun e w' h => ⟨_, h.1, rfl, h.2⟩) ?_
    rintro _ w7 ⟨rfl, hb⟩
    replace H1 := Lib.hid (And.intro (H1.out.1.below hb.out) (H1.out.2.below hb.out))
    replace hS0 := hcells.out _ H1.out.2
    refine ⟨hS0, ?_⟩
    simp only [List.setIfInBounds_toArray, List.set_cons_succ, List.set_cons_zero]
    clear hb
    (apply reg_take 12 rfl rfl (by decide +kernel) rfl); (rintro w' ⟨h1, h2, h3, h4, h5⟩; go_simp; rfl); exact hS0; simp only [List.setIfInBounds_toArray, List.set_cons_succ, List.set_cons_zero]
    (apply reg_take 13 rfl rfl (by decide +kernel) rfl); (rintro w' ⟨h1, h2, h3, h4, h5⟩; go_simp; rfl); exact hS0; simp only [List.setIfInBounds_toArray, List.set_cons_succ, List.set_cons_zero]
    (apply reg_take 14 rfl rfl (by decide +kernel) rfl); (rintro w' ⟨h1, h2, h3, h4, h5⟩; go_simp; rfl); exact hS0; simp only [List.setIfInBounds_toArray, List.set_cons_succ, List.set_cons_zero]
    (apply reg_take 15 rfl rfl (by decide +kernel) rfl); (rintro w' ⟨h1, h2, h3, h4, h5⟩; go_simp; rfl); exact hS0; simp only [List.setIfInBounds_toArray, List.set_cons_succ, List.set_cons_zero]
    refine reg_call 16 rfl rfl (by decide +kernel) rfl (f := 134) (args := #[.agg (genA ⟨(getM (subL s 8 12) : Int), (getM (subL s 12 16) : Int)⟩)]) (R := fun v w' => v = .bool true ∧ Hid (Below w7.heap.size w7 w')) (by kernel_rfl) ((hvg w7).mono fun e w' h => ⟨_, h.1, rfl, h.2⟩) ?_
    rintro _ w8 ⟨rfl, hb⟩
    replace H1 := Lib.hid (And.intro (H1.out.1.below hb.out) (H1.out.2.below hb.out))
    replace hS0 := hcells.out _ H1.out.2
    refine ⟨hS0, ?_⟩
    simp only [List.setIfInBounds_toArray, List.set_cons_succ, List.set_cons_zero]
    clear hb
    (apply reg_take 17 rfl rfl (by decide +kernel) rfl); (rintro w' ⟨h1, h2, h3, h4, h5⟩; go_simp; rfl); exact hS0; simp only [List.setIfInBounds_toArray, List.set_cons_succ, List.set_cons_zero]
    (apply reg_take 18 rfl rfl (by decide +kernel) rfl); (rintro w' ⟨h1, h2, h3, h4, h5⟩; go_simp; rfl); exact hS0; simp only [List.setIfInBounds_toArray, List.set_cons_succ, List.set_cons_zero]
    (apply reg_take 19 rfl rfl (by decide +kernel) rfl); (rintro w' ⟨h1, h2, h3, h4, h5⟩; go_simp; rfl); exact hS0; simp only [List.setIfInBounds_toArray, List.set_cons_succ, List.set_cons_zero]
    (apply reg_take 20 rfl rfl (by decide +kernel) rfl); (rintro w' ⟨h1, h2, h3, h4, h5⟩; go_simp; rfl); exact hS0; simp only [List.setIfInBounds_toArray, List.set_cons_succ, List.set_cons_zero]
    (apply reg_take 21 rfl rfl (by decide +kernel) rfl); (rintro w' ⟨h1, h2, h3, h4, h5⟩; go_simp; rfl); exact hS0; simp only [List.setIfInBounds_toArray, List.set_cons_succ, List.set_cons_zero]
    clear hne
    refine reg_done (by decide +kernel) ?_
    have HP := Lib.hid (show labP s = ⟨(c5.toNat : Int), (c4.toNat : Int), (getM (subL s 6 8) : Int)⟩ ∧ labG s = ⟨(getM (subL s 8 12) : Int), (getM (subL s 12 16) : Int)⟩ ∧ labE s = 0 from by have e := HLAB.out; simp only [hb1, hb2, hb3, Bool.and_true] at e; unfold labP labG labE; rw [e, HA.out, HG.out]; exact ⟨rfl, rfl, rfl⟩)
    clear kc hb1 hb2 hb3 hva hvg
    go_upto_region 8 with (fail)
    replace H1 := Lib.hid (And.intro H1.out.1.drew H1.out.2.drew)
    replace hS0 := hcells.out _ H1.out.2
    refine reg_begin (fun w' => w'.cell? ⟨C, 0, none⟩ = some (.int .i64 (c5.toNat : Int)) ∧ w'.cell? ⟨C, 1, none⟩ = some (.int .i64 (c4.toNat : Int)) ∧ w'.cell? ⟨C, 2, none⟩ = some (.int .i64 (getM (subL s 6 8) : Int)) ∧ w'.cell? ⟨D, 0, none⟩ = some (.int .i64 (getM (subL s 8 12) : Int)) ∧ w'.cell? ⟨D, 1, none⟩ = some (.int .i64 (getM (subL s 12 16) : Int))) (by kernel_rfl) ?_
    (apply reg_take 0 rfl rfl (by decide +kernel) rfl); (rintro w' ⟨h1, h2, h3, h4, h5⟩; go_simp; rfl); exact hS0; simp only [List.setIfInBounds_toArray, List.set_cons_succ, List.set_cons_zero]
    (apply reg_take 1 rfl rfl (by decide +kernel) rfl); (rintro w' ⟨h1, h2, h3, h4, h5⟩; go_simp; rfl); exact hS0; simp only [List.setIfInBounds_toArray, List.set_cons_succ, List.set_cons_zero]
    replace H1 := Lib.hid (And.intro H1.out.1 (H1.out.2.perm (show _ = pts B (.cells zPl TPl (0, 0)) * (pts (B + 1) (.cells zGen TGen (0, 0)) * (pts D (.cells #[.int .i64 (getM (subL s 8 12) : Int), .int .i64 (getM (subL s 12 16) : Int)] TGen (0, 0)) * (pts C (.cells #[.int .i64 (c5.toNat : Int), .int .i64 (c4.toNat : Int), .int .i64 (getM (subL s 6 8) : Int)] TPl (0, 0)) * F))) from by ac_rfl)))
    refine reg_store_blk 2 (T := TPl) (old := zPl) (new := #[.int .i64 (c5.toNat : Int), .int .i64 (c4.toNat : Int), .int .i64 (getM (subL s 6 8) : Int)]) rfl rfl (by decide +kernel) rfl rfl rfl rfl H1.out.2 (infoPl rfl) rfl (by simp [Value.oneCell']) ?_
    intro w9 h9
    replace H1 := Lib.hid (And.intro (H1.out.1.trans h9.out.1) (h9.out.2.perm (star_left_comm _ _ _)))
    replace hS0 := lab_cells (h9.out.2.right.right)
    refine ⟨hS0, ?_⟩
    clear h9
    refine reg_store_blk 3 (T := TGen) (old := zGen) (new := #[.int .i64 (getM (subL s 8 12) : Int), .int .i64 (getM (subL s 12 16) : Int)]) rfl rfl (by decide +kernel) rfl rfl rfl rfl H1.out.2 (infoGen rfl) rfl (by simp [Value.oneCell']) ?_
    intro w10 h10
    replace H1 := Lib.hid (And.intro (H1.out.1.trans h10.out.1) (h10.out.2.perm (star_left_comm _ _ _)))
    replace hS0 := lab_cells (h10.out.2.right.right)
    refine ⟨hS0, ?_⟩
    clear h10
    (apply reg_take 4 rfl rfl (by decide +kernel) rfl); (intro w' _; go_simp; rfl); exact hS0; simp only [List.setIfInBounds_toArray, List.set_cons_succ, List.set_cons_zero]
    refine reg_done (by decide +kernel) ?_
    clear hS0
    go_wp2
    refine bodyPost_ret (v := .tuple #[.agg (plA ⟨(c5.toNat : Int), (c4.toNat : Int), (getM (subL s 6 8) : Int)⟩), .agg (genA ⟨(getM (subL s 8 12) : Int), (getM (subL s 12 16) : Int)⟩), .int .i64 0]) (results3 Tryz.results122 (ResIs.row rfl H1.out.2.block Tryz.underlying37 rfl (infoPl rfl)) (ResIs.row rfl H1.out.2.right.block Tryz.underlying42 rfl (infoGen rfl)) (.tmp rfl)) rfl ?_
    exact ⟨by rw [HP.out.1, HP.out.2.1, HP.out.2.2], H1.out.1, H1.out.2.right.right.right.right⟩
end Go.Proofs.YtmcclbiaoeilkaaGreat
namespace Go.Proofs.YtmcclbiaoeilkaaGreat
open Go.RowKit Go.Sl Go.ChangeMaps
theorem open_cells {w : World} {C D B E : Nat} {p q r g h x y z : Int} {X : HProp} (hs : Sat w (pts C (.cells #[.int .i64 p, .int .i64 q, .int .i64 r] TPl (0, 0)) * (pts D (.cells #[.int .i64 g, .int .i64 h] TGen (0, 0)) * (pts B (.cells #[.int .i64 x, .int .i64 y, .int .i64 z] TPl (0, 0)) * (pts E (.cells zGen TGen (0, 0)) * X))))) :
    (w.cell? ⟨B, 0, none⟩ = some (.int .i64 x) ∧ w.cell? ⟨B, 1, none⟩ = some (.int .i64 y) ∧ w.cell? ⟨B, 2, none⟩ = some (.int .i64 z)) ∧ (w.cell? ⟨E, 0, none⟩ = some (.int .i64 0) ∧ w.cell? ⟨E, 1, none⟩ = some (.int .i64 0)) ∧
    w.cell? ⟨C, 0, none⟩ = some (.int .i64 p) ∧ w.cell? ⟨C, 1, none⟩ = some (.int .i64 q) ∧ w.cell? ⟨C, 2, none⟩ = some (.int .i64 r) ∧ w.cell? ⟨D, 0, none⟩ = some (.int .i64 g) ∧ w.cell? ⟨D, 1, none⟩ = some (.int .i64 h) ∧ w.frozen? ⟨E, 0, none⟩ = false ∧ w.frozen? ⟨E, 1, none⟩ = false := by
  have h1 := cells_at hs.block
  have h2 := cells_at hs.right.block
  have h3 := cells_at hs.right.right.block
  have h4 := cells_at hs.right.right.right.block
  have f4 := thawed_at hs.right.right.right.block
  exact ⟨⟨h3 0, h3 1, h3 2⟩, ⟨h4 0, h4 1⟩, h1 0, h1 1, h1 2, h2 0, h2 1, f4 0, f4 1⟩
theorem open_store {w w0 : World} {E : Nat} {g h : Int} {X Y Z W : HProp} (hm : Same w0 w) (hs : Sat w (X * (Y * (Z * (pts E (.cells zGen TGen (0, 0)) * W))))) :
    Same w0 ((w.setCell ⟨E, 0, none⟩ (.int .i64 g)).setCell ⟨E, 1, none⟩ (.int .i64 h)) ∧ Sat ((w.setCell ⟨E, 0, none⟩ (.int .i64 g)).setCell ⟨E, 1, none⟩ (.int .i64 h)) (pts E (.cells #[.int .i64 g, .int .i64 h] TGen (0, 0)) * W) := by
  have h1 := hs.right.right.right
  exact ⟨(hm.setCell _ _).setCell _ _, (h1.setCell (i := 0) (.int .i64 g)).setCell (i := 1) (.int .i64 h)⟩
theorem open_cells2 {w : World} {D : Nat} {g h : Int} {X Y : HProp} (hs : Sat w (X * (pts D (.cells #[.int .i64 g, .int .i64 h] TGen (0, 0)) * Y))) : w.cell? ⟨D, 0, none⟩ = some (.int .i64 g) ∧ w.cell? ⟨D, 1, none⟩ = some (.int .i64 h) := by
  have h1 := cells_at hs.right.block
  exact ⟨h1 0, h1 1⟩
theorem open_cells3 {w : World} {D : Nat} {g h : Int} {X Y Z : HProp} (hs : Sat w (X * (Z * (pts D (.cells #[.int .i64 g, .int .i64 h] TGen (0, 0)) * Y)))) : w.cell? ⟨D, 0, none⟩ = some (.int .i64 g) ∧ w.cell? ⟨D, 1, none⟩ = some (.int .i64 h) := by
  have h1 := cells_at hs.right.right.block
  exact ⟨h1 0, h1 1⟩
theorem open_perm (A B C D E : HProp) : A * (B * (C * (D * E))) = D * (A * (B * (C * E))) := by ac_rfl
set_option maxHeartbeats 1000000 in
set_option maxRecDepth 20000 in
theorem open_bad (a : PlaceM) (s : List UInt8) (ha : placeOK a = true) (hs : s.length = 64) (hl : labelOK s = false) (F : HProp) (w : World) (hF : Sat w F) :
    Calls Tryz.prog 78 #[.agg (plA a), .string (strB s)] w fun e w' => e = .returned (.tuple #[.agg zGen, .string (strB []), .int .i64 7]) ∧ Hid (Same w w' ∧ Sat w' F) := by
  have hLP : labP s = ⟨0, 0, 0⟩ := by unfold labP; rw [hl]; rfl
  have hLG : labG s = g0 := by unfold labG; rw [hl]; rfl
  have hLE : labE s = 7 := by unfold labE; rw [hl]; rfl
  have hva := fun W => valid_any a W
  rw [ha] at hva
  have HVA := Lib.hid hva
  have hlb := fun (F' : HProp) (W : World) (h : Sat W F') => label_any s hs F' W h
  rw [hLP, hLG, hLE] at hlb
  have HLB := Lib.hid hlb
  have HS := Lib.hid hs
  have H1 := Lib.hid (And.intro (((Same.refl w).alloc (.cells (plA a) TPl)).alloc (.cells zGen TGen)) (((hF.alloc (.cells (plA a) TPl)).alloc (.cells zGen TGen)).perm (show _ = pts w.heap.size (.cells (plA a) TPl (0, 0)) * (pts (w.alloc (.cells (plA a) TPl)).heap.size (.cells zGen TGen (0, 0)) * F) from by ac_rfl)))
  rw [World.size_alloc] at H1
  clear hva hlb hF hs hl ha hLP hLG hLE
  go_enter Tryz.func78, Tryz.ntmps78
  go_upto_region 1 with ((with_reducible (refine wpList_alloc_zero ?_ TGen ?_ _ (zeroGen _) ?_)); rfl; rfl)
  generalize (w.alloc (.cells (plA a) TPl)).alloc (.cells zGen TGen) = w1 at H1 ⊢
  generalize w.heap.size = B at H1 ⊢
  obtain ⟨⟨b0, b1, b2⟩, ⟨c0, c1⟩, lb, lc⟩ := seal_cells (g := g0) H1.out.2
  go_upto_region 4 with (first
    | (go_at_call 121; refine (HVA.out _).mono ?_; rintro e w2 ⟨rfl, hb⟩; replace H1 := Lib.hid (And.intro (H1.out.1.below hb) (H1.out.2.below hb)); clear b0 b1 b2 c0 c1 lb lc hb; obtain ⟨⟨b0, b1, b2⟩, ⟨c0, c1⟩, lb, lc⟩ := seal_cells (g := g0) H1.out.2)
    | (go_at_call 122; refine (HLB.out _ _ H1.out.2).mono ?_; rintro e w3 ⟨rfl, h3⟩; replace H1 := Lib.hid (And.intro (H1.out.1.trans h3.out.1) h3.out.2); clear b0 b1 b2 c0 c1 lb lc h3; obtain ⟨⟨b0, b1, b2⟩, ⟨c0, c1⟩, lb, lc⟩ := seal_cells (g := g0) H1.out.2))
  have hw := ((H1.out.2.alloc (.cells #[.int .i64 0, .int .i64 0, .int .i64 0] TPl)).alloc (.cells #[.int .i64 g0.epoch, .int .i64 g0.count] TGen))
  rw [World.size_alloc] at hw
  replace H1 := Lib.hid (And.intro ((H1.out.1.alloc (.cells #[.int .i64 0, .int .i64 0, .int .i64 0] TPl)).alloc (.cells #[.int .i64 g0.epoch, .int .i64 g0.count] TGen)) (hw.perm (show _ = pts w3.heap.size (.cells #[.int .i64 0, .int .i64 0, .int .i64 0] TPl (0, 0)) * (pts (w3.heap.size + 1) (.cells #[.int .i64 g0.epoch, .int .i64 g0.count] TGen (0, 0)) * (pts B (.cells (plA a) TPl (0, 0)) * (pts (B + 1) (.cells zGen TGen (0, 0)) * F))) from by ac_rfl)))
  clear hw b0 b1 b2 c0 c1 lb lc
  generalize (w3.alloc (.cells #[.int .i64 0, .int .i64 0, .int .i64 0] TPl)).alloc (.cells #[.int .i64 g0.epoch, .int .i64 g0.count] TGen) = w4 at H1 ⊢
  generalize w3.heap.size = C at H1 ⊢
  obtain ⟨⟨b0, b1, b2⟩, ⟨c0, c1⟩, d0, d1, d2, e0, e1, f0, f1⟩ := open_cells H1.out.2
  go_wp2
  replace H1 := Lib.hid (open_store (g := 0) (h := 0) H1.out.1 H1.out.2)
  refine bodyPost_ret (v := .tuple #[.agg zGen, .string (strB []), .int .i64 7]) (results3 Tryz.results78 (ResIs.row rfl H1.out.2.block Tryz.underlying42 rfl (infoGen rfl)) (.tmp rfl) (.tmp rfl)) rfl ?_
  exact ⟨rfl, H1.out.1, H1.out.2.right⟩
set_option maxHeartbeats 1000000 in
set_option maxRecDepth 20000 in
theorem open_else (a : PlaceM) (s : List UInt8) (ha : placeOK a = true) (hs : s.length = 64) (hl : labelOK s = true) (x y z g h : Int) (hp : placeAt s = ⟨x, y, z⟩) (hg : genAt s 8 = ⟨g, h⟩) (hne : (⟨x, y, z⟩ : PlaceM) ≠ a) (F : HProp) (w : World) (hF : Sat w F) :
    Calls Tryz.prog 78 #[.agg (plA a), .string (strB s)] w fun e w' => e = .returned (.tuple #[.agg zGen, .string (strB []), .int .i64 8]) ∧ Hid (Same w w' ∧ Sat w' F) := by
  have hLP : labP s = ⟨x, y, z⟩ := by unfold labP; rw [hl]; exact hp
  have hLG : labG s = ⟨g, h⟩ := by unfold labG; rw [hl]; exact hg
  have hLE : labE s = 0 := by unfold labE; rw [hl]; rfl
  clear hp hg
  have HNE := Lib.hid (show (x == a.disk && (y == a.area && z == a.index)) = false from by
    rw [Bool.eq_false_iff]
    intro hh
    simp only [Bool.and_eq_true, beq_iff_eq] at hh
    obtain ⟨d, e, f⟩ := a
    simp only at hh
    obtain ⟨rfl, rfl, rfl⟩ := hh
    exact hne rfl)
  clear hne
  have hva := fun W => valid_any a W
  rw [ha] at hva
  have HVA := Lib.hid hva
  have hlb := fun (F' : HProp) (W : World) (h : Sat W F') => label_any s hs F' W h
  rw [hLP, hLG, hLE] at hlb
  have HLB := Lib.hid hlb
  have HS := Lib.hid hs
  have H1 := Lib.hid (And.intro (((Same.refl w).alloc (.cells (plA a) TPl)).alloc (.cells zGen TGen)) (((hF.alloc (.cells (plA a) TPl)).alloc (.cells zGen TGen)).perm (show _ = pts w.heap.size (.cells (plA a) TPl (0, 0)) * (pts (w.alloc (.cells (plA a) TPl)).heap.size (.cells zGen TGen (0, 0)) * F) from by ac_rfl)))
  rw [World.size_alloc] at H1
  clear hva hlb hF hs hl ha hLP hLG hLE
  go_enter Tryz.func78, Tryz.ntmps78
  go_upto_region 1 with ((with_reducible (refine wpList_alloc_zero ?_ TGen ?_ _ (zeroGen _) ?_)); rfl; rfl)
  generalize (w.alloc (.cells (plA a) TPl)).alloc (.cells zGen TGen) = w1 at H1 ⊢
  generalize w.heap.size = B at H1 ⊢
  obtain ⟨⟨b0, b1, b2⟩, ⟨c0, c1⟩, lb, lc⟩ := seal_cells (g := g0) H1.out.2
  go_upto_region 4 with (first
    | (go_at_call 121; refine (HVA.out _).mono ?_; rintro e w2 ⟨rfl, hb⟩; replace H1 := Lib.hid (And.intro (H1.out.1.below hb) (H1.out.2.below hb)); clear b0 b1 b2 c0 c1 lb lc hb; obtain ⟨⟨b0, b1, b2⟩, ⟨c0, c1⟩, lb, lc⟩ := seal_cells (g := g0) H1.out.2)
    | (go_at_call 122; refine (HLB.out _ _ H1.out.2).mono ?_; rintro e w3 ⟨rfl, h3⟩; replace H1 := Lib.hid (And.intro (H1.out.1.trans h3.out.1) h3.out.2); clear b0 b1 b2 c0 c1 lb lc h3; obtain ⟨⟨b0, b1, b2⟩, ⟨c0, c1⟩, lb, lc⟩ := seal_cells (g := g0) H1.out.2))
  have hw := ((H1.out.2.alloc (.cells (plA ⟨x, y, z⟩) TPl)).alloc (.cells (genA ⟨g, h⟩) TGen))
  rw [World.size_alloc] at hw
  replace H1 := Lib.hid (And.intro ((H1.out.1.alloc (.cells (plA ⟨x, y, z⟩) TPl)).alloc (.cells (genA ⟨g, h⟩) TGen)) (hw.perm (show _ = pts w3.heap.size (.cells (plA ⟨x, y, z⟩) TPl (0, 0)) * (pts (w3.heap.size + 1) (.cells (genA ⟨g, h⟩) TGen (0, 0)) * (pts B (.cells (plA a) TPl (0, 0)) * (pts (B + 1) (.cells zGen TGen (0, 0)) * F))) from by ac_rfl)))
  clear hw b0 b1 b2 c0 c1 lb lc
  generalize (w3.alloc (.cells (plA ⟨x, y, z⟩) TPl)).alloc (.cells (genA ⟨g, h⟩) TGen) = w4 at H1 ⊢
  generalize w3.heap.size = C at H1 ⊢
  obtain ⟨⟨b0, b1, b2⟩, ⟨c0, c1⟩, d0, d1, d2, e0, e1, f0, f1⟩ := open_cells H1.out.2
  cases z1 : (x == a.disk)
  · clear HNE
    go_wp2
    replace H1 := Lib.hid (open_store (g := 0) (h := 0) H1.out.1 H1.out.2)
    refine bodyPost_ret (v := .tuple #[.agg zGen, .string (strB []), .int .i64 8]) (results3 Tryz.results78 (ResIs.row rfl H1.out.2.block Tryz.underlying42 rfl (infoGen rfl)) (.tmp rfl) (.tmp rfl)) rfl ?_
    exact ⟨rfl, H1.out.1, H1.out.2.right⟩
  cases z2 : (y == a.area)
  · clear HNE
    go_wp2
    replace H1 := Lib.hid (open_store (g := 0) (h := 0) H1.out.1 H1.out.2)
    refine bodyPost_ret (v := .tuple #[.agg zGen, .string (strB []), .int .i64 8]) (results3 Tryz.results78 (ResIs.row rfl H1.out.2.block Tryz.underlying42 rfl (infoGen rfl)) (.tmp rfl) (.tmp rfl)) rfl ?_
    exact ⟨rfl, H1.out.1, H1.out.2.right⟩
  have z3 : (z == a.index) = false := by have e := HNE.out; rw [z1, z2] at e; simpa using e
  clear HNE
  go_wp2
  replace H1 := Lib.hid (open_store (g := 0) (h := 0) H1.out.1 H1.out.2)
  refine bodyPost_ret (v := .tuple #[.agg zGen, .string (strB []), .int .i64 8]) (results3 Tryz.results78 (ResIs.row rfl H1.out.2.block Tryz.underlying42 rfl (infoGen rfl)) (.tmp rfl) (.tmp rfl)) rfl ?_
  exact ⟨rfl, H1.out.1, H1.out.2.right⟩
set_option maxHeartbeats 1000000 in
set_option maxRecDepth 20000 in
theorem open_good (a : PlaceM) (s : List UInt8) (ha : placeOK a = true) (hs : s.length = 64) (hl : labelOK s = true) (g h : Int) (hp : placeAt s = a) (hg : genAt s 8 = ⟨g, h⟩) (F : HProp) (w : World) (hF : Sat w F) :
    Calls Tryz.prog 78 #[.agg (plA a), .string (strB s)] w fun e w' => e = .returned (.tuple #[.agg (genA ⟨g, h⟩), .string (strB (subL s 16 56)), .int .i64 0]) ∧ Hid (Same w w' ∧ Sat w' F) := by
  obtain ⟨x, y, z⟩ := a
  have hLP : labP s = ⟨x, y, z⟩ := by unfold labP; rw [hl]; exact hp
  have hLG : labG s = ⟨g, h⟩ := by unfold labG; rw [hl]; exact hg
  have hLE : labE s = 0 := by unfold labE; rw [hl]; rfl
  clear hp hg
  have hva := fun W => valid_any ⟨x, y, z⟩ W
  rw [ha] at hva
  have HVA := Lib.hid hva
  have hlb := fun (F' : HProp) (W : World) (h : Sat W F') => label_any s hs F' W h
  rw [hLP, hLG, hLE] at hlb
  have HLB := Lib.hid hlb
  have HS := Lib.hid hs
  have H1 := Lib.hid (And.intro (((Same.refl w).alloc (.cells (plA ⟨x, y, z⟩) TPl)).alloc (.cells zGen TGen)) (((hF.alloc (.cells (plA ⟨x, y, z⟩) TPl)).alloc (.cells zGen TGen)).perm (show _ = pts w.heap.size (.cells (plA ⟨x, y, z⟩) TPl (0, 0)) * (pts (w.alloc (.cells (plA ⟨x, y, z⟩) TPl)).heap.size (.cells zGen TGen (0, 0)) * F) from by ac_rfl)))
  rw [World.size_alloc] at H1
  clear hva hlb hF hs hl ha hLP hLG hLE
  go_enter Tryz.func78, Tryz.ntmps78
  go_upto_region 1 with ((with_reducible (refine wpList_alloc_zero ?_ TGen ?_ _ (zeroGen _) ?_)); rfl; rfl)
  generalize (w.alloc (.cells (plA ⟨x, y, z⟩) TPl)).alloc (.cells zGen TGen) = w1 at H1 ⊢
  generalize w.heap.size = B at H1 ⊢
  obtain ⟨⟨b0, b1, b2⟩, ⟨c0, c1⟩, lb, lc⟩ := seal_cells (g := g0) H1.out.2
  go_upto_region 4 with (first
    | (go_at_call 121; refine (HVA.out _).mono ?_; rintro e w2 ⟨rfl, hb⟩; replace H1 := Lib.hid (And.intro (H1.out.1.below hb) (H1.out.2.below hb)); clear b0 b1 b2 c0 c1 lb lc hb; obtain ⟨⟨b0, b1, b2⟩, ⟨c0, c1⟩, lb, lc⟩ := seal_cells (g := g0) H1.out.2)
    | (go_at_call 122; refine (HLB.out _ _ H1.out.2).mono ?_; rintro e w3 ⟨rfl, h3⟩; replace H1 := Lib.hid (And.intro (H1.out.1.trans h3.out.1) h3.out.2); clear b0 b1 b2 c0 c1 lb lc h3; obtain ⟨⟨b0, b1, b2⟩, ⟨c0, c1⟩, lb, lc⟩ := seal_cells (g := g0) H1.out.2))
  have hw := ((H1.out.2.alloc (.cells (plA ⟨x, y, z⟩) TPl)).alloc (.cells (genA ⟨g, h⟩) TGen))
  rw [World.size_alloc] at hw
  replace H1 := Lib.hid (And.intro ((H1.out.1.alloc (.cells (plA ⟨x, y, z⟩) TPl)).alloc (.cells (genA ⟨g, h⟩) TGen)) (hw.perm (show _ = pts w3.heap.size (.cells (plA ⟨x, y, z⟩) TPl (0, 0)) * (pts (w3.heap.size + 1) (.cells (genA ⟨g, h⟩) TGen (0, 0)) * (pts B (.cells (plA ⟨x, y, z⟩) TPl (0, 0)) * (pts (B + 1) (.cells zGen TGen (0, 0)) * F))) from by ac_rfl)))
  clear hw b0 b1 b2 c0 c1 lb lc
  generalize (w3.alloc (.cells (plA ⟨x, y, z⟩) TPl)).alloc (.cells (genA ⟨g, h⟩) TGen) = w4 at H1 ⊢
  generalize w3.heap.size = C at H1 ⊢
  obtain ⟨⟨b0, b1, b2⟩, ⟨c0, c1⟩, d0, d1, d2, e0, e1, f0, f1⟩ := open_cells H1.out.2
  go_upto_region 8 with (fail)
  replace H1 := Lib.hid (And.intro H1.out.1.drew H1.out.2.drew)
  have hS0 := open_cells2 H1.out.2
  clear b0 b1 b2 c0 c1 d0 d1 d2 e0 e1 f0 f1
  refine reg_begin (fun w' => w'.cell? ⟨C + 1, 0, none⟩ = some (.int .i64 g) ∧ w'.cell? ⟨C + 1, 1, none⟩ = some (.int .i64 h)) (by kernel_rfl) ?_
  (apply reg_take 0 rfl rfl (by decide +kernel) rfl); (rintro w' ⟨h1, h2⟩; go_simp; rfl); exact hS0; simp only [List.setIfInBounds_toArray, List.set_cons_succ, List.set_cons_zero]
  (apply reg_take 1 rfl rfl (by decide +kernel) rfl); (rintro w' ⟨h1, h2⟩; go_simp; rfl); exact hS0; simp only [List.setIfInBounds_toArray, List.set_cons_succ, List.set_cons_zero]
  refine reg_take 2 (v := .string (strB (subL s 16 56))) rfl rfl (by decide +kernel) rfl (fun w' _ => exec_str_slice (i := 16) (j := 56) rfl Tryz.underlying9 rfl rfl rfl (by decide) (by rw [HS.out]; decide)) hS0 ?_; simp only [List.setIfInBounds_toArray, List.set_cons_succ, List.set_cons_zero]
  refine reg_call 3 rfl rfl (by decide +kernel) rfl (f := 123) (args := #[.string (strB (subL s 16 56))]) (R := fun v w' => v = .string (strB (subL s 16 56)) ∧ Hid (Below w4.drew.heap.size w4.drew w')) (by kernel_rfl) ((clone_any (strB (subL s 16 56)) w4.drew (by rw [strB_size]; simp [subL]; omega)).mono fun e w' h => ⟨_, h.1, rfl, h.2⟩) ?_
  rintro _ w5 ⟨rfl, hb⟩
  replace H1 := Lib.hid (And.intro (H1.out.1.below hb.out) (H1.out.2.below hb.out))
  replace hS0 := open_cells2 H1.out.2
  refine ⟨hS0, ?_⟩
  simp only [List.setIfInBounds_toArray, List.set_cons_succ, List.set_cons_zero]
  clear hb
  refine reg_store_blk 4 (T := TGen) (old := zGen) (new := #[.int .i64 g, .int .i64 h]) rfl rfl (by decide +kernel) rfl rfl rfl rfl (H1.out.2.perm (open_perm _ _ _ _ _)) (infoGen rfl) rfl (by simp [Value.oneCell']) ?_
  intro w6 h6
  replace H1 := Lib.hid (And.intro (H1.out.1.trans h6.out.1) h6.out.2)
  replace hS0 := open_cells3 h6.out.2
  refine ⟨hS0, ?_⟩
  clear h6
  (apply reg_take 5 rfl rfl (by decide +kernel) rfl); (rintro w' ⟨h1, h2⟩; go_simp; rfl); exact hS0; simp only [List.setIfInBounds_toArray, List.set_cons_succ, List.set_cons_zero]
  (apply reg_take 6 rfl rfl (by decide +kernel) rfl); (rintro w' ⟨h1, h2⟩; go_simp; rfl); exact hS0; simp only [List.setIfInBounds_toArray, List.set_cons_succ, List.set_cons_zero]
  refine reg_done (by decide +kernel) ?_
  clear hS0
  go_wp2
  refine bodyPost_ret (v := .tuple #[.agg (genA ⟨g, h⟩), .string (strB (subL s 16 56)), .int .i64 0]) (results3 Tryz.results78 (ResIs.row rfl H1.out.2.block Tryz.underlying42 rfl (infoGen rfl)) (.tmp rfl) (.tmp rfl)) rfl ?_
  exact ⟨rfl, H1.out.1, H1.out.2.right.right.right.right⟩
def openA (r : Option (GenM × List UInt8)) : Array Value × List UInt8 := match r with | some (g, p) => (genA g, p) | none => (zGen, [])
theorem open_any (a : PlaceM) (s : List UInt8) (ha : placeOK a = true) (hs : s.length = 64) (F : HProp) (w : World) (hF : Sat w F) :
    Calls Tryz.prog 78 #[.agg (plA a), .string (strB s)] w fun e w' => ∃ k : Int, (k = 0 ↔ (openM a s).isSome = true) ∧ e = .returned (.tuple #[.agg (openA (openM a s)).1, .string (strB (openA (openM a s)).2), .int .i64 k]) ∧ Hid (Same w w' ∧ Sat w' F) := by
  cases hl : labelOK s with
  | false =>
    have e : openM a s = none := by unfold openM; rw [if_neg (by rw [hl]; simp)]
    rw [e]
    exact (open_bad a s ha hs hl F w hF).mono fun _ _ h => ⟨7, by simp, h.1, h.2⟩
  | true =>
    by_cases hp : placeAt s = a
    · have e : openM a s = some (genAt s 8, subL s 16 56) := by unfold openM; rw [if_pos ⟨ha, hs, hl, hp⟩]
      rw [e]
      exact (open_good a s ha hs hl _ _ hp rfl F w hF).mono fun _ _ h => ⟨0, by simp, h.1, h.2⟩
    · have e : openM a s = none := by unfold openM; rw [if_neg (by rintro ⟨_, _, _, h⟩; exact hp h)]
      rw [e]
      exact (open_else a s ha hs hl _ _ _ _ _ rfl rfl hp F w hF).mono fun _ _ h => ⟨8, by simp, h.1, h.2⟩
end Go.Proofs.YtmcclbiaoeilkaaGreat
