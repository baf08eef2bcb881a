/- sector.Seal. -/
import Derived.Test.YtbegomjbakidmaaGb
import Derived.Test.YtbegomjbakidmaaRq
namespace Go.Proofs.Ytbegomjbakidmaa
open Go.RowKit Go.Sl Go.ChangeMaps

section
variable {P : Program} {ops : Array Oper} {rest : List Oper} {o : Oper} {a : Act} {w : World} {Q : Exit → Act → World → Prop}
theorem wpList_append_run (hg : o.guard = none) (s x : Operand) (t1 t2 : TypeId) (ho : o.op = .call { callee := .builtin .append, args := #[s, x], argTypes := #[t1, t2] }) {vs vx v' : Value} {w' : World}
    (hs : a.eval s = vs) (hx : a.eval x = vx) (hr : (Builtin.append_ #[t1, t2] o.type #[vs, vx]).run P w = .ok v' w') (k : wpList P ops Q rest (a.put o.dst v') w') : wpList P ops Q (o :: rest) a w := by
  refine wpList_run hg (v := v') (w' := w') ?_ k
  unfold execOp
  simp only [ho, resolve, invoke, builtin, Sem.run_bind, Sem.run_pure, Result.andThen_ok, List.map_toArray, List.map_cons, List.map_nil, hs, hx, hr]
end
theorem seal_cells {w : World} {B C : Nat} {a : PlaceM} {g : GenM} {F : HProp} (h : Sat w (pts B (.cells (plA a) TPl (0, 0)) * (pts C (.cells (genA g) TGen (0, 0)) * F))) :
    (w.cell? ⟨B, 0, none⟩ = some (.int .i64 a.disk) ∧ w.cell? ⟨B, 1, none⟩ = some (.int .i64 a.area) ∧ w.cell? ⟨B, 2, none⟩ = some (.int .i64 a.index)) ∧
    (w.cell? ⟨C, 0, none⟩ = some (.int .i64 g.epoch) ∧ w.cell? ⟨C, 1, none⟩ = some (.int .i64 g.count)) ∧ B < w.heap.size ∧ C < w.heap.size := by
  have h1 := cells_at h.block
  have h2 := cells_at h.right.block
  exact ⟨⟨h1 0, h1 1, h1 2⟩, ⟨h2 0, h2 1⟩, h.lt, h.right.lt⟩
theorem run_str_own {w : World} {v : Value} {l : List UInt8} {X : HProp} (h0 : 0 < l.length) (h : Sat w (ownB v l * X)) : (convert 95 9 v).run Try.prog w = .ok (.string (strB l)) w := by
  obtain ⟨g, cap, cur, rfl, hn, hcm, hcs, ht, hS⟩ := ownB_iff h0 h
  refine run_convert_bytes_back (P := Try.prog) w 95 9 5 ⟨g, 0, none⟩ cap l Try.underlying95 Try.underlying5 Try.underlying9 ?_
  intro j hj
  refine ownB_olds ht hS.block j _ ?_
  simp [secL, byteV, hj]
set_option maxHeartbeats 1000000 in
set_option maxRecDepth 20000 in
theorem seal_nat (d ar ix ep cn : Nat) (p : List UInt8) (hok : sealOK ⟨d, ar, ix⟩ ⟨ep, cn⟩ p = true) (F : HProp) (w : World) (hF : Sat w F) :
    Calls Try.prog 33 #[.agg (plA ⟨d, ar, ix⟩), .agg (genA ⟨ep, cn⟩), .string (strB p)] w fun e w' => e = .returned (.tuple #[.string (strB (sealL ⟨d, ar, ix⟩ ⟨ep, cn⟩ p)), .int .i64 0]) ∧ Hid (Same w w' ∧ Sat w' F) := by
  obtain ⟨ti, hti, hz0, hts, hz2⟩ := info_parts infoB3
  have HTI := Lib.hid (And.intro hti (And.intro hz0 (And.intro hts hz2)))
  clear hti hz0 hts hz2
  have hok2 := hok
  unfold sealOK at hok
  simp only [Bool.and_eq_true, decide_eq_true_eq] at hok
  obtain ⟨⟨ha, hg⟩, hp⟩ := hok
  have hva := fun W => valid_any ⟨d, ar, ix⟩ W
  have hvg := fun W => validGen_any ⟨ep, cn⟩ W
  rw [ha] at hva
  rw [hg] at hvg
  have hsl : (strB p).size = p.length := strB_size p
  have hpd : decide ((40 : Int) < (p.length : Int)) = false := decide_eq_false (by omega)
  have HVA := Lib.hid hva
  have HVG := Lib.hid hvg
  have HSL := Lib.hid (show sealL ⟨d, ar, ix⟩ ⟨ep, cn⟩ p = leL (crcM (bodyL ⟨d, ar, ix⟩ ⟨ep, cn⟩ p)).toNat 4 ++ bodyL ⟨d, ar, ix⟩ ⟨ep, cn⟩ p from rfl)
  obtain ⟨q1, q2, q3, q4, q5, q6⟩ := placeOK_iff.1 ha
  obtain ⟨r1, r2, r3, r4, r5⟩ := genOK_iff.1 hg
  clear r5
  simp only at q1 q2 q3 q4 q5 q6 r1 r2 r3 r4
  have HBL := Lib.hid (bodyL_length (a := ⟨d, ar, ix⟩) (g := ⟨ep, cn⟩) hp)
  have HBD := Lib.hid (show bodyL ⟨d, ar, ix⟩ ⟨ep, cn⟩ p = [UInt8.ofNat ar, UInt8.ofNat d] ++ leL ix 2 ++ leL ep 4 ++ leL cn 4 ++ p ++ zerosL (40 - p.length) ++ leL ep 4 ++ leL cn 4 from rfl)
  have HU1 := Lib.hid (show ((ar : Int)) = ((UInt8.ofNat ar).toNat : Int) by rw [u8_ofNat_toNat (by omega)])
  have HU2 := Lib.hid (show ((d : Int)) = ((UInt8.ofNat d).toNat : Int) by rw [u8_ofNat_toNat (by omega)])
  have HZ := Lib.hid (show (40 : Int) - (p.length : Int) = ((40 - p.length : Nat) : Int) by omega)
  have hz1 := (Same.refl w).alloc (.cells (plA ⟨d, ar, ix⟩) TPl)
  have hz2 := hF.alloc (.cells (plA ⟨d, ar, ix⟩) TPl)
  have H1 := Lib.hid (And.intro (hz1.alloc (.cells (genA ⟨ep, cn⟩) TGen)) ((hz2.alloc (.cells (genA ⟨ep, cn⟩) TGen)).perm (show _ = pts w.heap.size (.cells (plA ⟨d, ar, ix⟩) TPl (0, 0)) * (pts (w.alloc (.cells (plA ⟨d, ar, ix⟩) TPl)).heap.size (.cells (genA ⟨ep, cn⟩) TGen (0, 0)) * F) from by ac_rfl)))
  rw [World.size_alloc] at H1
  clear hva hvg hF hok2 ha hg hz1 hz2
  go_enter Try.func33, Try.ntmps33
  go_upto_region 1 with (fail)
  generalize (w.alloc (.cells (plA ⟨d, ar, ix⟩) TPl)).alloc (.cells (genA ⟨ep, cn⟩) TGen) = w1 at H1 ⊢
  generalize w.heap.size = B at H1 ⊢
  obtain ⟨⟨b0, b1, b2⟩, ⟨c0, c1⟩, lb, lc⟩ := seal_cells H1.out.2
  go_upto_region 3 with (first
    | (go_at_call 54; refine (HVA.out _).mono ?_; rintro e w2 ⟨rfl, hb⟩; replace H1 := Lib.hid (And.intro (H1.out.1.below hb) (H1.out.2.below hb)); clear b0 b1 b2 c0 c1 lb lc hb; obtain ⟨⟨b0, b1, b2⟩, ⟨c0, c1⟩, lb, lc⟩ := seal_cells H1.out.2)
    | (go_at_call 55; refine (HVG.out _).mono ?_; rintro e w3 ⟨rfl, hb⟩; replace H1 := Lib.hid (And.intro (H1.out.1.below hb) (H1.out.2.below hb)); clear b0 b1 b2 c0 c1 lb lc hb; obtain ⟨⟨b0, b1, b2⟩, ⟨c0, c1⟩, lb, lc⟩ := seal_cells H1.out.2))
  generalize hE : pts B (.cells (plA ⟨d, ar, ix⟩) TPl (0, 0)) * (pts (B + 1) (.cells (genA ⟨ep, cn⟩) TGen (0, 0)) * F) = E at H1
  have HC := Lib.hid (show ∀ W X, Sat W (X * E) → W.cell? ⟨B + 1, 0, none⟩ = some (.int .i64 (ep : Int)) ∧ W.cell? ⟨B + 1, 1, none⟩ = some (.int .i64 (cn : Int)) from fun W X h => by
    subst hE
    exact (seal_cells h.right).2.1)
  have HEF := Lib.hid (show ∀ W, Sat W E → Sat W F from fun W h => by subst hE; exact h.right.right)
  clear hE
  go_upto_region 4 with ((go_at_call 56); rw [HU1.out, HU2.out]; refine (put2_any _ [UInt8.ofNat ar, UInt8.ofNat d] ix (by omega) (by simp) _ _ (own_fresh _ _ rfl (by simp [maxLen]) H1.out.2)).mono ?_; rintro e w4 ⟨v4, rfl, h4⟩; replace H1 := Lib.hid (And.intro ((H1.out.1.alloc _).trans h4.out.1) h4.out.2); clear h4)
  clear b0 b1 b2 c0 c1 lb lc
  have HP4 := Lib.hid (show ∀ (v : Value) (l : List UInt8) (n : Nat) (W : World), l.length ≤ 1000000 → n < 4294967296 → Sat W (ownB v l * E) → Calls Try.prog 57 #[v, .int .u32 (n : Int)] W fun e w' => ∃ v', e = .returned v' ∧ Hid (Same W w' ∧ Sat w' (ownB v' (l ++ leL n 4) * E)) from fun v l n W hl hn h => put4_any v l n hn hl E W h)
  have ke : IntKind.u32.wrap (ep : Int) = (ep : Int) := IntWalk.u32_in _ (by omega)
  have kc : IntKind.u32.wrap (cn : Int) = (cn : Int) := IntWalk.u32_in _ (by omega)
  have LE := Lib.hid (show ep < 4294967296 ∧ cn < 4294967296 by omega)
  have LL := Lib.hid (show ∀ n m, (leL n m).length = m from leL_length)
  have hS0 := HC.out w4.drew _ H1.out.2
  refine reg_begin (fun w' => w'.cell? ⟨B + 1, 0, none⟩ = some (.int .i64 (ep : Int)) ∧ w'.cell? ⟨B + 1, 1, none⟩ = some (.int .i64 (cn : Int))) (by kernel_rfl) ?_
  (apply reg_take 0 rfl rfl (by decide +kernel) rfl); (rintro w' ⟨h1, h2⟩; go_simp; rfl); exact hS0; simp only [List.setIfInBounds_toArray, List.set_cons_succ, List.set_cons_zero]
  (apply reg_take 1 rfl rfl (by decide +kernel) rfl); (rintro w' ⟨h1, h2⟩; go_simp; rfl); exact hS0; simp only [List.setIfInBounds_toArray, List.set_cons_succ, List.set_cons_zero]
  (apply reg_take 2 rfl rfl (by decide +kernel) rfl); (rintro w' ⟨h1, h2⟩; go_simp; rfl); exact hS0; simp only [List.setIfInBounds_toArray, List.set_cons_succ, List.set_cons_zero]
  (apply reg_take 3 rfl rfl (by decide +kernel) rfl); (rintro w' ⟨h1, h2⟩; go_simp; rfl); exact hS0; simp only [List.setIfInBounds_toArray, List.set_cons_succ, List.set_cons_zero]
  (apply reg_take 5 rfl rfl (by decide +kernel) rfl); (rintro w' ⟨h1, h2⟩; go_simp; rfl); exact hS0; simp only [List.setIfInBounds_toArray, List.set_cons_succ, List.set_cons_zero]
  (apply reg_take 6 rfl rfl (by decide +kernel) rfl); (rintro w' ⟨h1, h2⟩; go_simp; rfl); exact hS0; simp only [List.setIfInBounds_toArray, List.set_cons_succ, List.set_cons_zero]
  (apply reg_take 7 rfl rfl (by decide +kernel) rfl); (rintro w' ⟨h1, h2⟩; go_simp; rfl); exact hS0; simp only [List.setIfInBounds_toArray, List.set_cons_succ, List.set_cons_zero]
  refine reg_call 4 rfl rfl (by decide +kernel) rfl (f := 57) (args := #[v4, .int .u32 (ep : Int)]) (R := fun v w' => Hid (Same w4.drew w' ∧ Sat w' (ownB v ([UInt8.ofNat ar, UInt8.ofNat d] ++ leL ix 2 ++ leL ep 4) * E))) (by kernel_rfl) (HP4.out v4 _ ep w4.drew (by simp [LL.out]) LE.out.1 H1.out.2) ?_
  rintro v5 w5 h5
  replace H1 := Lib.hid (And.intro (H1.out.1.drew.trans h5.out.1) h5.out.2)
  replace hS0 := HC.out w5 _ H1.out.2
  refine ⟨hS0, ?_⟩
  simp only [List.setIfInBounds_toArray, List.set_cons_succ, List.set_cons_zero]
  refine reg_call 8 rfl rfl (by decide +kernel) rfl (f := 57) (args := #[v5, .int .u32 (cn : Int)]) (R := fun v w' => Hid (Same w5 w' ∧ Sat w' (ownB v ([UInt8.ofNat ar, UInt8.ofNat d] ++ leL ix 2 ++ leL ep 4 ++ leL cn 4) * E))) (by kernel_rfl) (HP4.out v5 _ cn w5 (by simp [LL.out]) LE.out.2 H1.out.2) ?_
  rintro v6 w6 h6
  replace H1 := Lib.hid (And.intro (H1.out.1.trans h6.out.1) h6.out.2)
  replace hS0 := HC.out w6 _ H1.out.2
  refine ⟨hS0, ?_⟩
  simp only [List.setIfInBounds_toArray, List.set_cons_succ, List.set_cons_zero]
  (apply reg_take 9 rfl rfl (by decide +kernel) rfl); (rintro w' ⟨h1, h2⟩; go_simp; rfl); exact hS0; simp only [List.setIfInBounds_toArray, List.set_cons_succ, List.set_cons_zero]
  refine reg_done (by decide +kernel) ?_
  clear h5 h6
  obtain ⟨v7, w7, hr7, hs7, hS7⟩ := run_append_str (by simp) H1.out.2 p (by simp [LL.out]; omega) 95
  replace H1 := Lib.hid (And.intro (H1.out.1.trans hs7) hS7)
  have HR7 := Lib.hid hr7
  clear hs7 hS7 hr7
  go_upto_region 6 with (at_builtin; refine wpList_append_run rfl _ _ _ _ rfl rfl rfl HR7.out ?_)
  obtain ⟨v8, w8, hr8, hs8, hS8⟩ := run_append_zeros (by simp) H1.out.2 (40 - p.length) (by simp [LL.out]; omega) 95
  replace H1 := Lib.hid (And.intro (H1.out.1.trans hs8) hS8)
  have HR8 := Lib.hid hr8
  clear hs8 hS8 hr8
  have hp0 : (p.length : Int) ≤ 40 := by omega
  go_upto_region 7 with (at_builtin; refine wpList_append_run rfl _ _ _ _ rfl rfl (congrArg (Value.int .i64) HZ.out) HR8.out ?_)
  replace hS0 := HC.out w8.drew _ H1.out.2
  refine reg_begin (fun w' => w'.cell? ⟨B + 1, 0, none⟩ = some (.int .i64 (ep : Int)) ∧ w'.cell? ⟨B + 1, 1, none⟩ = some (.int .i64 (cn : Int))) (by kernel_rfl) ?_
  (apply reg_take 0 rfl rfl (by decide +kernel) rfl); (rintro w' ⟨h1, h2⟩; go_simp; rfl); exact hS0; simp only [List.setIfInBounds_toArray, List.set_cons_succ, List.set_cons_zero]
  (apply reg_take 1 rfl rfl (by decide +kernel) rfl); (rintro w' ⟨h1, h2⟩; go_simp; rfl); exact hS0; simp only [List.setIfInBounds_toArray, List.set_cons_succ, List.set_cons_zero]
  (apply reg_take 2 rfl rfl (by decide +kernel) rfl); (rintro w' ⟨h1, h2⟩; go_simp; rfl); exact hS0; simp only [List.setIfInBounds_toArray, List.set_cons_succ, List.set_cons_zero]
  (apply reg_take 3 rfl rfl (by decide +kernel) rfl); (rintro w' ⟨h1, h2⟩; go_simp; rfl); exact hS0; simp only [List.setIfInBounds_toArray, List.set_cons_succ, List.set_cons_zero]
  (apply reg_take 5 rfl rfl (by decide +kernel) rfl); (rintro w' ⟨h1, h2⟩; go_simp; rfl); exact hS0; simp only [List.setIfInBounds_toArray, List.set_cons_succ, List.set_cons_zero]
  (apply reg_take 6 rfl rfl (by decide +kernel) rfl); (rintro w' ⟨h1, h2⟩; go_simp; rfl); exact hS0; simp only [List.setIfInBounds_toArray, List.set_cons_succ, List.set_cons_zero]
  (apply reg_take 7 rfl rfl (by decide +kernel) rfl); (rintro w' ⟨h1, h2⟩; go_simp; rfl); exact hS0; simp only [List.setIfInBounds_toArray, List.set_cons_succ, List.set_cons_zero]
  refine reg_call 4 rfl rfl (by decide +kernel) rfl (f := 57) (args := #[v8, .int .u32 (ep : Int)]) (R := fun v w' => Hid (Same w8.drew w' ∧ Sat w' (ownB v ([UInt8.ofNat ar, UInt8.ofNat d] ++ leL ix 2 ++ leL ep 4 ++ leL cn 4 ++ p ++ zerosL (40 - p.length) ++ leL ep 4) * E))) (by kernel_rfl) (HP4.out v8 _ ep w8.drew (by simp [LL.out, zerosL]; omega) LE.out.1 H1.out.2) ?_
  rintro v9 w9 h9
  replace H1 := Lib.hid (And.intro (H1.out.1.drew.trans h9.out.1) h9.out.2)
  replace hS0 := HC.out w9 _ H1.out.2
  refine ⟨hS0, ?_⟩
  simp only [List.setIfInBounds_toArray, List.set_cons_succ, List.set_cons_zero]
  refine reg_call 8 rfl rfl (by decide +kernel) rfl (f := 57) (args := #[v9, .int .u32 (cn : Int)]) (R := fun v w' => Hid (Same w9 w' ∧ Sat w' (ownB v ([UInt8.ofNat ar, UInt8.ofNat d] ++ leL ix 2 ++ leL ep 4 ++ leL cn 4 ++ p ++ zerosL (40 - p.length) ++ leL ep 4 ++ leL cn 4) * E))) (by kernel_rfl) (HP4.out v9 _ cn w9 (by simp [LL.out, zerosL]; omega) LE.out.2 H1.out.2) ?_
  rintro v10 w10 h10
  replace H1 := Lib.hid (And.intro (H1.out.1.trans h10.out.1) h10.out.2)
  replace hS0 := HC.out w10 _ H1.out.2
  refine ⟨hS0, ?_⟩
  simp only [List.setIfInBounds_toArray, List.set_cons_succ, List.set_cons_zero]
  (apply reg_take 9 rfl rfl (by decide +kernel) rfl); (rintro w' ⟨h1, h2⟩; go_simp; rfl); exact hS0; simp only [List.setIfInBounds_toArray, List.set_cons_succ, List.set_cons_zero]
  refine reg_done (by decide +kernel) ?_
  clear h9 h10 hS0
  have hA := H1.out
  rw [← HBD.out] at hA
  replace H1 := Lib.hid hA
  clear hA
  replace HBL := Lib.hid HBL.out
  obtain ⟨q, hq⟩ : ∃ q, bodyL ⟨d, ar, ix⟩ ⟨ep, cn⟩ p = q := ⟨_, rfl⟩
  rw [hq] at H1 HSL HBL
  clear hq HBD
  obtain ⟨g10, cap10, rfl, _⟩ := ownAt_cells H1.out.2 (by rw [HBL.out]; decide)
  have hof := of_any (.slice (some ⟨g10, 0, none⟩) q.length cap10) q _ w10 H1.out.2 (fun W h => ownB_bytes h) (by rw [HBL.out]; decide)
  unfold u32V at hof
  have hcl := (crcM q).toNat_lt
  have hsl2 := HSL.out
  obtain ⟨c, hc⟩ : ∃ c, (crcM q).toNat = c := ⟨_, rfl⟩
  rw [hc] at hof hcl hsl2
  replace HSL := Lib.hid hsl2
  clear hsl2 hc
  have HOF := Lib.hid hof
  have HCL := Lib.hid hcl
  have HPX := Lib.hid (show ∀ W F', Sat W F' → Calls Try.prog 57 #[.slice none 0 0, .int .u32 (c : Int)] W fun e w' => ∃ v', e = .returned v' ∧ Hid (Same W w' ∧ Sat w' (ownB v' ([] ++ leL c 4) * F')) from fun W F' h => put4_any (.slice none 0 0) [] c hcl (by simp) F' W (ownB_nil.2 h))
  clear hof hcl
  go_wp2_with (first
    | (go_at_call 58; refine (HOF.out).mono ?_; rintro e w11 ⟨rfl, h11⟩; replace H1 := Lib.hid (And.intro (H1.out.1.trans h11.out.1) h11.out.2); clear h11)
    | (go_at_call 57; refine (HPX.out _ _ H1.out.2).mono ?_; rintro e w12 ⟨v12, rfl, h12⟩; replace H1 := Lib.hid (And.intro (H1.out.1.trans h12.out.1) h12.out.2); clear h12)
    | (at_builtin; refine wpList_append_ownAt (F := ownB (.slice (some ⟨g10, 0, none⟩) q.length cap10) q * E) rfl _ _ 95 TByte rfl ti _ Try.underlying95 HTI.out.1 HTI.out.2.1 HTI.out.2.2.1 HTI.out.2.2.2 rfl H1.out.2 (secL q) rfl rfl (by rw [secL_length, Nat.mul_one]) ?_ ?_ (by have := HBL.out; simp only [List.nil_append, leL_length, maxLen]; omega) (by have := HBL.out; simp only [List.nil_append, leL_length]; omega) ?_))
  · have hx := fun (cur : Array Value) => ownB_olds (l := q) (w := w12) (g := g10) (cur := cur)
    intro j u hu
    obtain ⟨g', cap', cur', e', _, _, _, ht', hS'⟩ := ownB_iff (by rw [HBL.out]; decide) H1.out.2.right
    simp only [Value.slice.injEq, Option.some.injEq, Addr.mk.injEq, and_true] at e'
    obtain ⟨⟨rfl, _⟩, _⟩ := e'
    exact hx _ ht' hS'.block j u hu
  · intro u hu
    obtain ⟨x, _, rfl⟩ := List.mem_map.1 hu
    rfl
  intro v13 w13 h13
  have hS13 : Sat w13 (ownB v13 (leL c 4 ++ q) * (ownB (.slice (some ⟨g10, 0, none⟩) q.length cap10) q * E)) := by
    have h := h13.out.2
    unfold ownB
    rw [List.length_append, show secL (leL c 4 ++ q) = secL (leL c 4) ++ secL q by simp [secL]]
    exact h
  have hcv := run_str_own (by rw [List.length_append, HBL.out]; omega) hS13
  replace H1 := Lib.hid (And.intro (H1.out.1.trans h13.out.1) (HEF.out _ hS13.right.right))
  have HCV := Lib.hid hcv
  clear h13 hS13 hcv
  refine wpList_run rfl (exec_convert rfl rfl HCV.out) ?_
  go_wp2
  go_ret2
  exact ⟨by rw [HSL.out]; rfl, H1.out⟩
/-- A sector is sealed. -/
theorem seal_any (a : PlaceM) (g : GenM) (p : List UInt8) (hok : sealOK a g p = true) (F : HProp) (w : World) (hF : Sat w F) :
    Calls Try.prog 33 #[.agg (plA a), .agg (genA g), .string (strB p)] w fun e w' => e = .returned (.tuple #[.string (strB (sealL a g p)), .int .i64 0]) ∧ Hid (Same w w' ∧ Sat w' F) := by
  have hok2 := hok
  unfold sealOK at hok
  simp only [Bool.and_eq_true, decide_eq_true_eq] at hok
  obtain ⟨⟨ha, hg⟩, hp⟩ := hok
  obtain ⟨q1, q2, q3, q4, q5, q6⟩ := placeOK_iff.1 ha
  obtain ⟨r1, r2, r3, r4, r5⟩ := genOK_iff.1 hg
  obtain ⟨d, ar, ix⟩ := a
  obtain ⟨ep, cn⟩ := g
  simp only at q1 q2 q3 q4 q5 q6 r1 r2 r3 r4
  obtain ⟨d, rfl⟩ := Int.eq_ofNat_of_zero_le q1
  obtain ⟨ar, rfl⟩ := Int.eq_ofNat_of_zero_le (show 0 ≤ ar by omega)
  obtain ⟨ix, rfl⟩ := Int.eq_ofNat_of_zero_le q5
  obtain ⟨ep, rfl⟩ := Int.eq_ofNat_of_zero_le r1
  obtain ⟨cn, rfl⟩ := Int.eq_ofNat_of_zero_le r2
  exact seal_nat d ar ix ep cn p hok2 F w hF
end Go.Proofs.Ytbegomjbakidmaa
