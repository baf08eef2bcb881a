import Derived.Test.YteikbikopgabjaaGreatDoorU08
import Derived.Test.YteikbikopgabjaaGreatDoorU36
import Derived.Test.YteikbikopgabjaaGreatDoorU37
/- Part 38 of a proof; the last part says what is proved. -/
namespace Go.GF
open Go Go.RowKit
theorem basisR_snoc (c : CodeM) (l : List Nat) (u : Nat) : basisR c (l ++ [u]) = if exprU c (basisR c l) (c.gen u) then basisR c l else basisR c l ++ [u] := by
  unfold basisR; rw [List.foldl_append]; rfl
theorem basisR_len (c : CodeM) (l : List Nat) : (basisR c l).length ≤ l.length := by
  have key : ∀ (r b : List Nat), (r.foldl (fun b u => if exprU c b (c.gen u) then b else b ++ [u]) b).length ≤ b.length + r.length := by
    intro r
    induction r with
    | nil => intro b; simp
    | cons v r ih =>
      intro b
      rw [List.foldl_cons]
      have := ih (if exprU c b (c.gen v) then b else b ++ [v])
      cases hx : exprU c b (c.gen v) <;> rw [hx] at this <;> simp at this ⊢ <;> omega
  have := key l []
  rw [List.length_nil, Nat.zero_add] at this
  exact this
def genX (c : CodeM) (us : List Nat) : Mat := fun j => c.gen ((us[j]?).getD 0)
theorem exprU_cols (c : CodeM) (us : List Nat) (t : Nat → Nat) : exprU c us t = exprB (mulC c.m) (invC c.m) c.k us.length (colsM us.length (genX c us) t) := by
  unfold exprU
  congr 1
end Go.GF
namespace Go.Sl
open Go Go.RowKit Go.GF
theorem rowS_row {w : World} {F : HProp} {T : TypeId} {g : Nat × Nat} {C : Nat} {f : Nat → Nat} (h : Sat w (rowS T g C f * F)) : RowI w (hdrV C g) (intsV (lineI f C)) := by
  obtain ⟨c, ⟨h1, h2, h3, h4⟩, hs⟩ := rowS_iff.1 h
  refine ⟨some ⟨g.1, 0, none⟩, g.2, by unfold hdrV; rw [intsV_len, lineI_len], by rw [intsV_len, lineI_len]; exact h1, h2, fun _ => ⟨g.1, 0, rfl, hs.lt, fun j u hu => ?_⟩⟩
  rw [Nat.zero_add, cells_at hs.block]
  have hj : j < C := by have := (List.getElem?_eq_some_iff.1 hu).1; rw [intsV_len, lineI_len] at this; exact this
  rw [intsV_at (lineI_at f hj)] at hu
  cases hu
  exact h4 j hj
def rowsS (TR TI : TypeId) (v : Value) (n C : Nat) (g : Nat → Nat × Nat) (M : Mat) : HProp := ownAt TR 1 v n (hdrsL C g n) * bigs n fun i => rowS TI (g i) C (M i)
theorem rowsS_nil {w : World} {F : HProp} {TR TI : TypeId} {C : Nat} {g : Nat → Nat × Nat} {M : Mat} (h : Sat w F) : Sat w (rowsS TR TI (.slice none 0 0) 0 C g M * F) := by
  have h1 : Sat w (ownAt TR 1 (.slice none 0 0) 0 [] * F) := ownAt_nil.2 h
  refine h1.perm ?_
  show _ = ownAt TR 1 (.slice none 0 0) 0 [] * emp * F
  rw [star_emp]
theorem rowsS_rows {w : World} {F : HProp} {TR TI : TypeId} {v : Value} {n C : Nat} {g : Nat → Nat × Nat} {M : Mat} (h : Sat w (rowsS TR TI v n C g M * F)) : RowsI w v (linesI M n C) := by
  refine ⟨hdrsL C g n, rowV_own (hdrsL_len _ _ _) (h.perm (show _ = ownAt TR 1 v n (hdrsL C g n) * ((bigs n fun i => rowS TI (g i) C (M i)) * F) by unfold rowsS; ac_rfl)), by rw [hdrsL_len, linesI_len], fun i x hx => ?_⟩
  have hi : i < n := by have := (List.getElem?_eq_some_iff.1 hx).1; rw [hdrsL_len] at this; exact this
  rw [hdrsL_at hi] at hx
  cases hx
  refine ⟨_, linesI_at M hi, rowS_row (T := TI) (F := ownAt TR 1 v n (hdrsL C g n) * (bigs n (hole (fun i => rowS TI (g i) C (M i)) i) * F)) (h.perm ?_)⟩
  unfold rowsS
  rw [bigs_pick hi]
  ac_rfl
end Go.Sl
namespace Go.Proofs.YteikbikopgabjaaGreatDoor
open Go.RowKit Go.GF Go.Sl
theorem rowsS_snoc {w : World} {F : HProp} {v' : Value} {n C : Nat} {g : Nat → Nat × Nat} {M M' : Mat} {x : Nat × Nat} {f : Nat → Nat} (hM : ∀ i, i < n → M' i = M i) (hf : M' n = f)
    (h : Sat w (ownAt TRo 1 v' (n + 1) (hdrsL C g n ++ [hdrV C x]) * (rowS TI x C f * ((bigs n fun i => rowS TI (g i) C (M i)) * F)))) : Sat w (rowsS TRo TI v' (n + 1) C (snG g n x) M' * F) := by
  refine h.perm ?_
  unfold rowsS
  rw [hdrsL_snoc, bigs_snoc, hf, bigs_congr (P := fun i => rowS TI (g i) C (M' i)) (Q := fun i => rowS TI (g i) C (M i)) fun k hk => by rw [hM k hk]]
  ac_rfl
structure BaW (w1 : World) (c : CodeM) (us : List Nat) (ov rv : Value) (g : Nat → Nat × Nat) (wr : World) : Prop where
  same : Same w1 wr
  sat : Sat wr (ownAt TI 1 ov (natsI us).length (intsV (natsI us)) * (rowsS TRo TI rv us.length c.k g (genX c us) * old w1))
theorem BaW.bel {w1 wr : World} {c : CodeM} {us : List Nat} {ov rv : Value} {g : Nat → Nat × Nat} (h : BaW w1 c us ov rv g wr) : Below w1.heap.size w1 wr :=
  h.same.below_of (h.sat.perm (show _ = (ownAt TI 1 ov (natsI us).length (intsV (natsI us)) * rowsS TRo TI rv us.length c.k g (genX c us)) * old w1 by ac_rfl))
theorem BaW.rows {w1 wr : World} {c : CodeM} {us : List Nat} {ov rv : Value} {g : Nat → Nat × Nat} (h : BaW w1 c us ov rv g wr) : RowsI wr rv (linesI (genX c us) us.length c.k) :=
  rowsS_rows (h.sat.perm (show _ = rowsS TRo TI rv us.length c.k g (genX c us) * (ownAt TI 1 ov (natsI us).length (intsV (natsI us)) * old w1) by ac_rfl))
theorem BaW.below {w1 wr w' : World} {c : CodeM} {us : List Nat} {ov rv : Value} {g : Nat → Nat × Nat} (h : BaW w1 c us ov rv g wr) (hb : Below wr.heap.size wr w') : BaW w1 c us ov rv g w' := ⟨h.same.below hb, h.sat.below hb⟩
structure BaS (w1 : World) (c : CodeM) (h : List Bool) (ov rv iv : Value) (wr : World) : Prop where
  st : ∃ (i : Nat) (g : Nat → Nat × Nat), i ≤ h.length ∧ iv = .int .i64 (i : Int) ∧ BaW w1 c (basisR c (unitsK h i)) ov rv g wr
theorem genX_snoc (c : CodeM) (us : List Nat) (u : Nat) : (∀ i, i < us.length → genX c (us ++ [u]) i = genX c us i) ∧ genX c (us ++ [u]) us.length = c.gen u := by
  refine ⟨fun i hi => ?_, ?_⟩
  · unfold genX; rw [List.getElem?_append_left hi]
  · unfold genX; rw [List.getElem?_append_right (Nat.le_refl _), Nat.sub_self]; rfl
set_option maxRecDepth 20000 in
set_option maxHeartbeats 4000000 in
theorem rbasis_any (cv : Array Value) (c : CodeM) (hv : Value) (h : List Bool) (w : World) (hc : CodeAt w cv c) (hh : RowI w hv (boolsV h)) (hl : h.length = c.n) :
    Calls Tryz.prog 125 #[.agg cv, hv] w fun e w' => ∃ v, e = .returned (.tuple #[v, .int .i64 0]) ∧ Same w w' ∧ Sat w' (ownAt TI 1 v (natsI (basisR c (units h))).length (intsV (natsI (basisR c (units h)))) * old w) := by
  have HC := Lib.hid (fun W (hb : Below w.heap.size w W) => hc.below hb)
  have HRW := Lib.hid (fun u (hu : u < c.n) W (hb : Below w.heap.size w W) => r8row_any cv c u hu W (hc.below hb))
  have HWD := Lib.hid (fun t => r8width_any cv c (w.alloc (.cells cv t)) (hc.below (al_below w _)))
  have HEX := Lib.hid (fun us (hu : us.length ≤ 32) t ht rv tv W h1 h2 => express_any c.m hc.ok.fld c.k us.length hc.ok.pos (by have := hc.n32; unfold CodeM.n at this; omega) hu (genX c us) t (fun j _ i _ => gen_lt hc.ok _ _) ht rv tv W h1 h2)
  have HGL := Lib.hid (fun u => fun i (_ : i < c.k) => gen_lt hc.ok u i)
  have HLN := Lib.hid (fun i => Nat.le_trans (basisR_len c (unitsK h i)) (unitsK_len h i))
  have hn32 := hc.n32
  have HKP := Lib.hid hc.ok.pos
  have HN0 := Lib.hid (show c.n ≠ 0 by have := hc.ok.pos; unfold CodeM.n; omega)
  have HBX := Lib.hid (fun t w1 h => code_box w w1 cv t h)
  obtain ⟨⟨nm, pv, dom, rfl, -⟩, -, -, -⟩ := hc
  obtain ⟨ah, ch, rfl, -, -, hcell⟩ := id hh
  have HH := Lib.hid (fun i x (hx : h[i]? = some x) => show ∃ b off, ah = some ⟨b, off, none⟩ ∧ ∀ W, Below w.heap.size w W → W.cell? ⟨b, off + i, none⟩ = some (.bool x) from by
    obtain ⟨b, off, e, hlt, hc2⟩ := hcell (by have := (List.getElem?_eq_some_iff.1 hx).1; rw [boolsV_len]; omega)
    exact ⟨b, off, e, fun W hb => (hb.cell (p := ⟨b, off + i, none⟩) hlt).trans (hc2 i _ (boolsV_at hx))⟩)
  rw [boolsV_len, hl]
  have hne : ((c.n : Int) != (c.n : Int)) = false := by simp
  have hn0d : ((c.n : Int) == 0) = false := by have := HN0.out; simpa using this
  clear hh hcell
  obtain ⟨N, hN⟩ : ∃ N, c.n = N := ⟨_, rfl⟩
  rw [hN] at hl hn32 hne hn0d HRW HWD ⊢
  clear hN
  unfold codeV at *
  go_enter Tryz.func125, Tryz.ntmps125
  go_wp2_with (go_at_call 44; refine (HWD.out _).mono ?_; rintro e w1 ⟨rfl, h1⟩; obtain ⟨hg, hb⟩ := HBX.out _ w1 h1)
  have HS0 := Lib.hid (show Same w w1 ∧ Sat w1 (old w) from ⟨⟨hb.os, hb.tape, hb.output, hb.size⟩, (Sat.old w).keep hb.block⟩)
  have HG := Lib.hid (And.intro hg hb)
  clear h1 hg hb HBX HWD
  generalize hgs : w.heap.size = gs at *
  go_loopw [7, 8, 9] (fun ov rv iv wr => BaS w1 c h ov rv iv wr) (fun _ _ iv _ => N - (intOf iv).toNat)
  case atStart => exact ⟨⟨0, fun _ => (0, 0), Nat.zero_le _, rfl, Same.refl _, ownAt_nil.2 (rowsS_nil (Sat.old w1))⟩⟩
  case round =>
    obtain ⟨i, g, hi, rfl, hB⟩ := hrel.st
    clear hrel
    have HB := Lib.hid hB
    clear hB
    by_cases hiN : i < N
    · have hid : decide ((i : Int) < (N : Int)) = true := decide_eq_true (by omega)
      have hwi : IntKind.i64.wrap ((i : Int) + 1) = (i : Int) + 1 := IntWalk.i64_in _ (by omega)
      obtain ⟨x, hx⟩ : ∃ x, h[i]? = some x := ⟨_, List.getElem?_eq_getElem (by omega)⟩
      obtain ⟨b, off, rfl, hcc⟩ := HH.out i x hx
      have HBW := Lib.hid (show Below gs w wr from HG.out.2.trans (HB.out.bel.mono (by rw [← hgs]; exact HG.out.2.size)))
      have c9 := hcc wr HBW.out
      have HU := Lib.hid (unitsK_succ h i hx)
      have HL := Lib.hid (HLN.out i)
      clear hcc hx
      cases x with
      | false =>
        go_wp2
        go_roundw
        case rel => exact ⟨⟨i + 1, g, by omega, rfl, by rw [HU.out, if_neg (by decide)]; exact HB.out⟩⟩
        case measure => simp only [intOf]; omega
      | true =>
        have HN := Lib.hid (show basisR c (unitsK h (i + 1)) = if exprU c (basisR c (unitsK h i)) (c.gen i) then basisR c (unitsK h i) else basisR c (unitsK h i) ++ [i] by rw [HU.out, if_pos rfl, basisR_snoc])
        generalize basisR c (unitsK h i) = us at *
        have hus : us.length ≤ 32 := by have := HL.out; omega
        go_upto_region 10 with (fail)
        clear c9
        have HEU := Lib.hid (exprU_cols c us (c.gen i))
        have hB1 : BaW w1 c us u7 u8 g wr.drew := HB.out.below ((Below.refl _ _).drew)
        have hS0 : Box wr.drew gs (codeV nm c.m c.k pv dom) := HG.out.1.below hB1.bel
        have HD := Lib.hid hB1
        refine reg_begin (fun w' => Box w' gs (codeV nm c.m c.k pv dom)) (by kernel_rfl) ?_
        (apply reg_take 0 rfl rfl (by decide +kernel) rfl); (intro w' hw'; go_simp; rfl); exact hS0; simp only [List.setIfInBounds_toArray, List.set_cons_succ, List.set_cons_zero]
        refine reg_take 1 (v := .int .i64 (c.m : Int)) rfl rfl (by decide +kernel) rfl (fun w' h => exec_load_cell rfl rfl Tryz.underlying3 rfl (Box.code (nm := nm) (dom := dom) h).2.1) hS0 ?_; simp only [List.setIfInBounds_toArray, List.set_cons_succ, List.set_cons_zero]
        (apply reg_take 2 rfl rfl (by decide +kernel) rfl); (intro w' hw'; go_simp; rfl); exact hS0; simp only [List.setIfInBounds_toArray, List.set_cons_succ, List.set_cons_zero]
        refine reg_take 3 (v := .agg (codeV nm c.m c.k pv dom)) rfl rfl (by decide +kernel) rfl (fun w' h => exec_ldC rfl rfl h) hS0 ?_; simp only [List.setIfInBounds_toArray, List.set_cons_succ, List.set_cons_zero]
        (apply reg_take 4 rfl rfl (by decide +kernel) rfl); (intro w' hw'; go_simp; rfl); exact hS0; simp only [List.setIfInBounds_toArray, List.set_cons_succ, List.set_cons_zero]
        refine reg_call 5 rfl rfl (by decide +kernel) rfl (f := 126) (args := #[.agg (codeV nm c.m c.k pv dom), .int .i64 (i : Int)]) (R := fun v w' => Same wr.drew w' ∧ Sat w' (ownAt TI 1 v c.k (intsV (lineI (c.gen i) c.k)) * old wr.drew)) (by kernel_rfl) ((HRW.out i hiN wr.drew HBW.out.drew).mono fun e w' h => h) ?_
        rintro v5 w5 ⟨h5, h6⟩
        simp only [List.setIfInBounds_toArray, List.set_cons_succ, List.set_cons_zero]
        have hb5 := h5.below_of h6
        have hB5 := HD.out.below hb5
        have hr5 : RowI w5 v5 (intsV (lineI (c.gen i) c.k)) := rowV_own (by rw [intsV_len, lineI_len]) h6
        have HD5 := Lib.hid (And.intro hB5 hr5)
        have hS5 : Box w5 gs (codeV nm c.m c.k pv dom) := HG.out.1.below hB5.bel
        clear h5 h6 hb5 hB5 hr5 hB1 HD
        refine ⟨hS5, ?_⟩
        refine reg_call 6 rfl rfl (by decide +kernel) rfl (f := 127) (args := #[.int .i64 (c.m : Int), u8, v5]) (R := fun v w' => (∃ v0, v = .tuple #[v0, .bool (exprU c us (c.gen i))]) ∧ Below w5.heap.size w5 w') (by kernel_rfl) ((HEX.out us hus (c.gen i) (HGL.out i) u8 v5 w5 HD5.out.1.rows HD5.out.2).mono fun e w' h => by
          obtain ⟨h1, v, h2, -⟩ := h
          rw [← HEU.out] at h2
          exact ⟨_, h2, ⟨_, rfl⟩, h1⟩) ?_
        rintro _ w6 ⟨⟨v6, rfl⟩, h6⟩
        simp only [List.setIfInBounds_toArray, List.set_cons_succ, List.set_cons_zero]
        have hB6 := HD5.out.1.below h6
        have hS6 : Box w6 gs (codeV nm c.m c.k pv dom) := HG.out.1.below hB6.bel
        have HD6 := Lib.hid hB6
        clear h6 hB6 HD5 hS5
        refine ⟨hS6, ?_⟩
        (apply reg_take 7 rfl rfl (by decide +kernel) rfl); (intro w' hw'; go_simp; rfl); exact hS6; simp only [List.setIfInBounds_toArray, List.set_cons_succ, List.set_cons_zero]
        (apply reg_take 8 rfl rfl (by decide +kernel) rfl); (intro w' hw'; go_simp; rfl); exact hS6; simp only [List.setIfInBounds_toArray, List.set_cons_succ, List.set_cons_zero]
        (apply reg_take 9 rfl rfl (by decide +kernel) rfl); (intro w' hw'; go_simp; rfl); exact hS6; simp only [List.setIfInBounds_toArray, List.set_cons_succ, List.set_cons_zero]
        (apply reg_take 10 rfl rfl (by decide +kernel) rfl); (intro w' hw'; go_simp; rfl); exact hS6; simp only [List.setIfInBounds_toArray, List.set_cons_succ, List.set_cons_zero]
        (apply reg_take 11 rfl rfl (by decide +kernel) rfl); (intro w' hw'; go_simp; rfl); exact hS6; simp only [List.setIfInBounds_toArray, List.set_cons_succ, List.set_cons_zero]
        refine reg_done (by decide +kernel) ?_
        clear hS6 hS0
        cases hx : exprU c us (c.gen i) with
        | true =>
          have HN2 := Lib.hid (show basisR c (unitsK h (i + 1)) = us by rw [HN.out, if_pos hx])
          go_wp2
          go_roundw
          case rel => exact ⟨⟨i + 1, g, by omega, rfl, by rw [HN2.out]; exact HD6.out⟩⟩
          case measure => simp only [intOf]; omega
        | false =>
          have HN2 := Lib.hid (show basisR c (unitsK h (i + 1)) = us ++ [i] by rw [HN.out, hx, if_neg (by decide)])
          have HGX := Lib.hid (genX_snoc c us i)
          obtain ⟨ar, cr, rfl⟩ := ownAt_slice (HD6.out.sat.perm (show _ = ownAt TRo 1 u8 us.length (hdrsL c.k g us.length) * ((bigs us.length fun i => rowS TI (g i) c.k (genX c us i)) * (ownAt TI 1 u7 (natsI us).length (intsV (natsI us)) * old w1)) by unfold rowsS; ac_rfl))
          clear hx
          go_wp2_with first
            | (at_builtin; refine wpList_apF rfl _ _ rfl rfl rfl HD6.out.sat (by rw [natsI_len]; omega) ?_; intro v9 w9 h9 h10
               have HP := Lib.hid (And.intro (HD6.out.same.trans h9) h10)
               have hb9 := HP.out.1.below_of (HP.out.2.perm (show _ = (ownAt TI 1 v9 (natsI us ++ [(i : Int)]).length (intsV (natsI us ++ [(i : Int)])) * rowsS TRo TI (.slice ar us.length cr) us.length c.k g (genX c us)) * old w1 by ac_rfl))
               have HB9 := Lib.hid (show Below gs w w9 from HG.out.2.trans (hb9.mono (by rw [← hgs]; exact HG.out.2.size)))
               obtain ⟨d0, d1, d2, d3, d4⟩ := Box.code (nm := nm) (dom := dom) (HG.out.1.below hb9)
               clear h9 h10 hb9)
            | (go_at_call 126; refine (HRW.out i hiN w9 HB9.out).mono ?_; rintro e w10 ⟨v10, rfl, h11, h12⟩
               obtain ⟨x, rfl, h13⟩ := row_of_own HKP.out (h12.of_all HP.out.2)
               have HP2 := Lib.hid (And.intro (HP.out.1.trans h11) h13)
               clear h11 h12 h13 d0 d1 d2 d3 d4
               unfold hdrV)
            | (at_builtin; refine wpList_apR (F := rowS TI x c.k (c.gen i) * ((bigs us.length fun i => rowS TI (g i) c.k (genX c us i)) * (ownAt TI 1 v9 (natsI us ++ [(i : Int)]).length (intsV (natsI us ++ [(i : Int)])) * old w1))) rfl _ _ rfl rfl rfl (hdrsL_len _ _ _) (HP2.out.2.perm (by unfold rowsS; ac_rfl)) (by omega) ?_; intro v11 w11 h14 h15
               have HP3 := Lib.hid (And.intro (HP2.out.1.trans h14) h15)
               clear h14 h15)
          have HF := Lib.hid (show BaW w1 c (us ++ [i]) v9 v11 (snG g us.length x) w11 from by
            refine ⟨HP3.out.1, ?_⟩
            have h := rowsS_snoc (M' := genX c (us ++ [i])) (F := ownAt TI 1 v9 (natsI us ++ [(i : Int)]).length (intsV (natsI us ++ [(i : Int)])) * old w1) HGX.out.1 HGX.out.2 HP3.out.2
            rw [natsI_app]
            simp only [List.length_append, List.length_singleton] at h ⊢
            exact h.perm (by ac_rfl))
          go_roundw
          case rel => exact ⟨⟨i + 1, _, by omega, rfl, by rw [HN2.out]; exact HF.out⟩⟩
          case measure => simp only [intOf]; omega
    · have hie : i = N := by omega
      have hid : decide ((i : Int) < (N : Int)) = false := decide_eq_false (by omega)
      have HN := Lib.hid (show unitsK h i = units h by rw [hie, ← hl]; exact unitsK_all h)
      clear hie
      go_wp2
      go_ret2
      rw [← HN.out]
      refine ⟨_, rfl, HS0.out.1.trans HB.out.same, ?_⟩
      have h1 := (HB.out.sat.perm (show _ = (ownAt TI 1 u7 (natsI (basisR c (unitsK h i))).length (intsV (natsI (basisR c (unitsK h i)))) * rowsS TRo TI u8 (basisR c (unitsK h i)).length c.k g (genX c (basisR c (unitsK h i)))) * old w1 by ac_rfl)).of_all HS0.out.2
      exact (h1.perm (show _ = rowsS TRo TI u8 (basisR c (unitsK h i)).length c.k g (genX c (basisR c (unitsK h i))) * (ownAt TI 1 u7 (natsI (basisR c (unitsK h i))).length (intsV (natsI (basisR c (unitsK h i)))) * old w) by ac_rfl)).right
end Go.Proofs.YteikbikopgabjaaGreatDoor
namespace Go.Proofs.YteikbikopgabjaaGreatDoor
open Go.RowKit Go.GF Go.Sl
theorem exec_appG {a : Act} {w : World} {o : Oper} {x y : Operand} {t : TypeId} {v u v' : Value} {w' : World} (ho : o.op = .call { callee := .builtin .append, args := #[x, y], argTypes := #[t, t] }) (hx : a.eval x = v) (hy : a.eval y = u)
    (h : (Builtin.append_ #[t, t] o.type #[v, u]).run Tryz.prog w = .ok v' w') : (execOp a.eval o).run Tryz.prog w = .ok (.value v') w' := by
  unfold execOp
  simp only [ho, resolve, invoke, builtin, Sem.run_bind, Sem.run_pure, Result.andThen_ok, List.map_toArray, List.map_cons, List.map_nil, hx, hy, h]
structure CoW (w1 : World) (c : CodeM) (us : List Nat) (n : Nat) (rv : Value) (g : Nat → Nat × Nat) (wr : World) : Prop where
  same : Same w1 wr
  sat : Sat wr (rowsS TRo TI rv n c.k g (genX c us) * old w1)
theorem CoW.bel {w1 wr : World} {c : CodeM} {us : List Nat} {n : Nat} {rv : Value} {g : Nat → Nat × Nat} (h : CoW w1 c us n rv g wr) : Below w1.heap.size w1 wr := h.same.below_of h.sat
theorem CoW.below {w1 wr w' : World} {c : CodeM} {us : List Nat} {n : Nat} {rv : Value} {g : Nat → Nat × Nat} (h : CoW w1 c us n rv g wr) (hb : Below wr.heap.size wr w') : CoW w1 c us n rv g w' := ⟨h.same.below hb, h.sat.below hb⟩
structure CoS (w1 : World) (c : CodeM) (us : List Nat) (rv iv : Value) (wr : World) : Prop where
  st : ∃ (i : Nat) (g : Nat → Nat × Nat), i ≤ us.length ∧ iv = .int .i64 (i : Int) ∧ CoW w1 c us i rv g wr
set_option maxRecDepth 20000 in
set_option maxHeartbeats 4000000 in
theorem rcoef_any (cv : Array Value) (c : CodeM) (hv : Value) (h : List Bool) (u : Nat) (w : World) (hc : CodeAt w cv c) (hh : RowI w hv (boolsV h)) (hl : h.length = c.n) (hu : u < c.n) :
    Calls Tryz.prog 98 #[.agg cv, hv, .int .i64 (u : Int)] w fun e w' => Below w.heap.size w w' ∧ ∃ bv xv, e = .returned (.tuple #[bv, xv, .int .i64 (if recR c h u then 0 else 11)]) ∧
      (recR c h u = true → RowI w' bv (intsV (natsI (basisR c (units h)))) ∧ ∃ L : List Int, L.length = (basisR c (units h)).length ∧ RowI w' xv (intsV L)) := by
  have HRW := Lib.hid (fun u (hu : u < c.n) W (hb : Below w.heap.size w W) => r8row_any cv c u hu W (hc.below hb))
  have HBS := Lib.hid (fun t => rbasis_any cv c hv h (w.alloc (.cells cv t)) (hc.below (al_below w _)) (hh.below (al_below w _)) hl)
  have HEX := Lib.hid (fun us (hu : us.length ≤ 32) t ht rv tv W h1 h2 => express_any c.m hc.ok.fld c.k us.length hc.ok.pos (by have := hc.n32; unfold CodeM.n at this; omega) hu (genX c us) t (fun j _ i _ => gen_lt hc.ok _ _) ht rv tv W h1 h2)
  have HGL := Lib.hid (fun u => fun i (_ : i < c.k) => gen_lt hc.ok u i)
  have HLN := Lib.hid (show (basisR c (units h)).length ≤ 32 from by
    have h1 := basisR_len c (units h)
    have h2 := units_len h
    have h3 := hc.n32
    omega)
  have HUL := Lib.hid (show ∀ a, a ∈ basisR c (units h) → a < c.n from fun a ha => by rw [← hl]; exact units_lt ((basisR_ok hc.ok (units h)).2.2 ha))
  have HRR := Lib.hid (show recR c h u = exprU c (basisR c (units h)) (c.gen u) from rfl)
  have HEU := Lib.hid (exprU_cols c (basisR c (units h)) (c.gen u))
  have hn32 := hc.n32
  have HKP := Lib.hid hc.ok.pos
  have HBX := Lib.hid (fun t w1 h => code_box w w1 cv t h)
  obtain ⟨⟨nm, pv, dom, rfl, -⟩, -, -, -⟩ := hc
  obtain ⟨ah, ch, rfl, -⟩ := id hh
  rw [boolsV_len, hl] at *
  have hu0 : decide ((u : Int) < 0) = false := decide_eq_false (by omega)
  have hud : decide ((c.n : Int) ≤ (u : Int)) = false := decide_eq_false (by omega)
  have hud2 : decide (c.n ≤ u) = false := decide_eq_false (by omega)
  clear hh
  obtain ⟨N, hN⟩ : ∃ N, c.n = N := ⟨_, rfl⟩
  rw [hN] at hl hn32 hu hud hud2 HRW HBS HUL ⊢
  clear hN
  generalize basisR c (units h) = us at *
  obtain ⟨R, hR⟩ : ∃ R, recR c h u = R := ⟨_, rfl⟩
  rw [hR] at HRR ⊢
  clear hR
  unfold codeV at *
  go_enter Tryz.func98, Tryz.ntmps98
  go_wp2_with (go_at_call 125; refine (HBS.out _).mono ?_; rintro e w1 ⟨bv, rfl, h1, h2⟩; obtain ⟨hg, hb⟩ := HBX.out _ w1 (h1.below_of h2); have hrow := rowI_own h2; obtain ⟨ab, cb, rfl, -⟩ := id hrow; rw [intsV_len, natsI_len] at *)
  have HG := Lib.hid (And.intro hg (And.intro hb hrow))
  clear h1 h2 hg hb hrow HBX HBS
  generalize hgs : w.heap.size = gs at *
  have HB0 := Lib.hid (show Below gs w w1 from HG.out.2.1)
  have HGS := Lib.hid (show gs ≤ w1.heap.size by rw [← hgs]; exact HG.out.2.1.size)
  go_loopw [11, 12] (fun rv iv wr => CoS w1 c us rv iv wr) (fun _ iv _ => us.length - (intOf iv).toNat)
  case atStart => exact ⟨⟨0, fun _ => (0, 0), Nat.zero_le _, rfl, Same.refl _, rowsS_nil (Sat.old w1)⟩⟩
  case round =>
    obtain ⟨i, g, hi, rfl, hB⟩ := hrel.st
    clear hrel
    have HB := Lib.hid hB
    clear hB
    have HBW := Lib.hid (show Below gs w wr from HB0.out.trans (HB.out.bel.mono HGS.out))
    by_cases hin : i < us.length
    · have hid : decide ((i : Int) < (us.length : Int)) = true := decide_eq_true (by omega)
      have hus32 := HLN.out
      have hwi : IntKind.i64.wrap ((i : Int) + 1) = (i : Int) + 1 := IntWalk.i64_in _ (by omega)
      obtain ⟨x, hx⟩ : ∃ x, us[i]? = some x := ⟨_, List.getElem?_eq_getElem (by omega)⟩
      obtain ⟨-, b, off, rfl, c9⟩ := rowI_at HG.out.2.2 (show (natsI us)[i]? = some (x : Int) by unfold natsI; rw [List.getElem?_map, hx]; rfl)
      have hlt9 := World.block_lt_of_cell? _ _ c9
      have HC9 := Lib.hid (show ∀ W, Below w1.heap.size w1 W → W.cell? ⟨b, off + i, none⟩ = some (.int .i64 (x : Int)) from fun W hb => (hb.cell (p := ⟨b, off + i, none⟩) hlt9).trans c9)
      have HX := Lib.hid (show x < N ∧ genX c us i = c.gen x from ⟨HUL.out x (List.mem_of_getElem? hx), by unfold genX; rw [hx]; rfl⟩)
      obtain ⟨ar, cr, rfl⟩ := ownAt_slice (HB.out.sat.perm (show _ = ownAt TRo 1 u11 i (hdrsL c.k g i) * ((bigs i fun i => rowS TI (g i) c.k (genX c us i)) * old w1) by unfold rowsS; ac_rfl))
      clear hx c9 hlt9
      go_upto_region 8 with (fail)
      have hB1 : CoW w1 c us i (.slice ar i cr) g wr.drew := HB.out.below ((Below.refl _ _).drew)
      have hS0 : Box wr.drew gs (codeV nm c.m c.k pv dom) ∧ wr.drew.cell? ⟨b, off + i, none⟩ = some (.int .i64 (x : Int)) := ⟨HG.out.1.below hB1.bel, HC9.out _ hB1.bel⟩
      have HD := Lib.hid hB1
      refine reg_begin (fun w' => Box w' gs (codeV nm c.m c.k pv dom) ∧ w'.cell? ⟨b, off + i, none⟩ = some (.int .i64 (x : Int))) (by kernel_rfl) ?_
      (apply reg_take 0 rfl rfl (by decide +kernel) rfl); (rintro w' ⟨-, -⟩; go_simp; rfl); exact hS0; simp only [List.setIfInBounds_toArray, List.set_cons_succ, List.set_cons_zero]
      refine reg_take 1 (v := .agg (codeV nm c.m c.k pv dom)) rfl rfl (by decide +kernel) rfl (fun w' h => exec_ldC rfl rfl h.1) hS0 ?_; simp only [List.setIfInBounds_toArray, List.set_cons_succ, List.set_cons_zero]
      (apply reg_take 2 rfl rfl (by decide +kernel) rfl); (rintro w' ⟨-, -⟩; go_simp; rfl); exact hS0; simp only [List.setIfInBounds_toArray, List.set_cons_succ, List.set_cons_zero]
      (apply reg_take 3 rfl rfl (by decide +kernel) rfl); (rintro w' ⟨-, -⟩; go_simp; rfl); exact hS0; simp only [List.setIfInBounds_toArray, List.set_cons_succ, List.set_cons_zero]
      refine reg_take 4 (v := .pointer (some ⟨b, off + i, none⟩)) rfl rfl (by decide +kernel) rfl (fun w' h => exec_ixI rfl rfl rfl hin) hS0 ?_; simp only [List.setIfInBounds_toArray, List.set_cons_succ, List.set_cons_zero]
      refine reg_take 5 (v := .int .i64 (x : Int)) rfl rfl (by decide +kernel) rfl (fun w' h => exec_load_cell rfl rfl Tryz.underlying3 rfl h.2) hS0 ?_; simp only [List.setIfInBounds_toArray, List.set_cons_succ, List.set_cons_zero]
      refine reg_call 6 rfl rfl (by decide +kernel) rfl (f := 126) (args := #[.agg (codeV nm c.m c.k pv dom), .int .i64 (x : Int)]) (R := fun v w' => Same wr.drew w' ∧ Sat w' (ownAt TI 1 v c.k (intsV (lineI (c.gen x) c.k)) * old wr.drew)) (by kernel_rfl) ((HRW.out x HX.out.1 wr.drew HBW.out.drew).mono fun e w' h => h) ?_
      rintro v5 w5 ⟨h5, h6⟩
      simp only [List.setIfInBounds_toArray, List.set_cons_succ, List.set_cons_zero]
      have hb5 := h5.below_of h6
      have hbb := HD.out.bel.trans (hb5.mono HD.out.bel.size)
      have hS5 : Box w5 gs (codeV nm c.m c.k pv dom) ∧ w5.cell? ⟨b, off + i, none⟩ = some (.int .i64 (x : Int)) := ⟨HG.out.1.below hbb, HC9.out _ hbb⟩
      obtain ⟨y, rfl, h7⟩ := row_of_own HKP.out (h6.of_all HD.out.sat)
      have HD5 := Lib.hid (And.intro (HD.out.same.trans h5) h7)
      clear h5 h6 hb5 hbb hB1 HD h7
      refine ⟨hS5, ?_⟩
      have hA5 := HD5.out.2.alloc (.cells #[hdrV c.k y] TRo)
      have hS6 : Box (w5.alloc (.cells #[hdrV c.k y] TRo)) gs (codeV nm c.m c.k pv dom) ∧ (w5.alloc (.cells #[hdrV c.k y] TRo)).cell? ⟨b, off + i, none⟩ = some (.int .i64 (x : Int)) := by
        have hbb := al_below w5 (.cells #[hdrV c.k y] TRo)
        exact ⟨hS5.1.below hbb, (hbb.cell (p := ⟨b, off + i, none⟩) (World.block_lt_of_cell? _ _ hS5.2)).trans hS5.2⟩
      refine reg_run 7 (.slice (some ⟨w5.heap.size, 0, none⟩) 1 1) (w5.alloc (.cells #[hdrV c.k y] TRo)) rfl rfl (by decide +kernel) rfl ((by unfold hdrV; go_simp)) (hS6) ?_; simp only [List.setIfInBounds_toArray, List.set_cons_succ, List.set_cons_zero]
      obtain ⟨ti, hti, hz0, hts, hz2⟩ := info_parts info_row3
      have hA6 := hA5.perm (show _ = ownAt TRo 1 (.slice ar i cr) i (hdrsL c.k g i) * (pts w5.heap.size (.cells #[hdrV c.k y] TRo (0, 0)) * (rowS TI y c.k (c.gen x) * ((bigs i fun i => rowS TI (g i) c.k (genX c us i)) * old w1))) by unfold rowsS; ac_rfl)
      obtain ⟨v', w7, hr, hsm7, hs7⟩ := run_append_ownAt (P := Tryz.prog) 44 44 TRo ti _ Tryz.underlying44 hti hz0 (by rw [hts]; rfl) (.slice ar i cr) i (hdrsL c.k g i) (by rw [hts]; exact hA6) ⟨w5.heap.size, 0, none⟩ 1 1 [hdrV c.k y] (by rw [hts]; rfl)
        (by intro j u hu; rw [Addr.add_mid, cells_at hA6.right.block, Nat.zero_add]; simpa using hu) (by simp [Value.oneCell', hdrV]) (by unfold maxLen; omega) (by rw [hz2]; omega)
      rw [hts] at hs7
      have HC7 := Lib.hid (show CoW w1 c us (i + 1) v' (snG g i y) w7 from ⟨(HD5.out.1.alloc _).trans hsm7, by
        have h := (hs7.perm (show _ = pts w5.heap.size (.cells #[hdrV c.k y] TRo (0, 0)) * (ownAt TRo 1 v' (i + 1) (hdrsL c.k g i ++ [hdrV c.k y]) * (rowS TI y c.k (c.gen x) * ((bigs i fun i => rowS TI (g i) c.k (genX c us i)) * old w1))) by ac_rfl)).right
        exact rowsS_snoc (fun _ _ => rfl) HX.out.2 h⟩)
      have hS7 : Box w7 gs (codeV nm c.m c.k pv dom) ∧ w7.cell? ⟨b, off + i, none⟩ = some (.int .i64 (x : Int)) := ⟨HG.out.1.below HC7.out.bel, HC7.out.bel |> HC9.out _⟩
      refine reg_run 8 (v') (w7) rfl rfl (by decide +kernel) rfl (exec_appG rfl rfl rfl hr) (hS7) ?_; simp only [List.setIfInBounds_toArray, List.set_cons_succ, List.set_cons_zero]
      (apply reg_take 9 rfl rfl (by decide +kernel) rfl); (rintro w' ⟨-, -⟩; go_simp; rfl); exact hS7; simp only [List.setIfInBounds_toArray, List.set_cons_succ, List.set_cons_zero]
      refine reg_done (by decide +kernel) ?_
      clear hS0 hS5 hS6 hS7 hA5 hA6 hsm7 hs7 hr hti hz0 hts hz2 HD5
      go_wp2
      go_roundw
      case rel => exact ⟨⟨i + 1, _, by omega, rfl, HC7.out⟩⟩
      case measure => simp only [intOf]; omega
    · have hie : i = us.length := by omega
      have hid : decide ((i : Int) < (us.length : Int)) = false := decide_eq_false (by omega)
      obtain rfl : us.length = i := hie.symm
      clear hie
      go_upto_region 9 with (fail)
      have hB1 : CoW w1 c us us.length u11 g wr.drew := HB.out.below ((Below.refl _ _).drew)
      have hS0 : Box wr.drew gs (codeV nm c.m c.k pv dom) := HG.out.1.below hB1.bel
      have HD := Lib.hid hB1
      refine reg_begin (fun w' => Box w' gs (codeV nm c.m c.k pv dom)) (by kernel_rfl) ?_
      (apply reg_take 0 rfl rfl (by decide +kernel) rfl); (intro w' hw'; go_simp; rfl); exact hS0; simp only [List.setIfInBounds_toArray, List.set_cons_succ, List.set_cons_zero]
      refine reg_take 1 (v := .int .i64 (c.m : Int)) rfl rfl (by decide +kernel) rfl (fun w' h => exec_load_cell rfl rfl Tryz.underlying3 rfl (Box.code (nm := nm) (dom := dom) h).2.1) hS0 ?_; simp only [List.setIfInBounds_toArray, List.set_cons_succ, List.set_cons_zero]
      (apply reg_take 2 rfl rfl (by decide +kernel) rfl); (intro w' hw'; go_simp; rfl); exact hS0; simp only [List.setIfInBounds_toArray, List.set_cons_succ, List.set_cons_zero]
      refine reg_take 3 (v := .agg (codeV nm c.m c.k pv dom)) rfl rfl (by decide +kernel) rfl (fun w' h => exec_ldC rfl rfl h) hS0 ?_; simp only [List.setIfInBounds_toArray, List.set_cons_succ, List.set_cons_zero]
      (apply reg_take 4 rfl rfl (by decide +kernel) rfl); (intro w' hw'; go_simp; rfl); exact hS0; simp only [List.setIfInBounds_toArray, List.set_cons_succ, List.set_cons_zero]
      refine reg_call 5 rfl rfl (by decide +kernel) rfl (f := 126) (args := #[.agg (codeV nm c.m c.k pv dom), .int .i64 (u : Int)]) (R := fun v w' => Same wr.drew w' ∧ Sat w' (ownAt TI 1 v c.k (intsV (lineI (c.gen u) c.k)) * old wr.drew)) (by kernel_rfl) ((HRW.out u hu wr.drew HBW.out.drew).mono fun e w' h => h) ?_
      rintro v5 w5 ⟨h5, h6⟩
      simp only [List.setIfInBounds_toArray, List.set_cons_succ, List.set_cons_zero]
      have hB5 := HD.out.below (h5.below_of h6)
      have hr5 : RowI w5 v5 (intsV (lineI (c.gen u) c.k)) := rowV_own (by rw [intsV_len, lineI_len]) h6
      have HD5 := Lib.hid (And.intro hB5 hr5)
      have hS5 : Box w5 gs (codeV nm c.m c.k pv dom) := HG.out.1.below hB5.bel
      clear h5 h6 hB5 hr5 hB1 HD
      refine ⟨hS5, ?_⟩
      refine reg_call 6 rfl rfl (by decide +kernel) rfl (f := 127) (args := #[.int .i64 (c.m : Int), u11, v5]) (R := fun v w' => Below w5.heap.size w5 w' ∧ ∃ v0, v = .tuple #[v0, .bool R] ∧ (R = true → ∃ L : List Int, L.length = us.length ∧ RowI w' v0 (intsV L))) (by kernel_rfl) ((HEX.out us HLN.out (c.gen u) (HGL.out u) u11 v5 w5 (rowsS_rows HD5.out.1.sat) HD5.out.2).mono fun e w' h => by
        obtain ⟨h1, v, h2, h3⟩ := h
        rw [← HEU.out, ← HRR.out] at h2 h3
        exact ⟨_, h2, h1, v, rfl, fun hR => ⟨_, by rw [lineI_len], h3 hR⟩⟩) ?_
      rintro _ w6 ⟨h6, v6, rfl, h7⟩
      simp only [List.setIfInBounds_toArray, List.set_cons_succ, List.set_cons_zero]
      have hB6 := HD5.out.1.below h6
      have hS6 : Box w6 gs (codeV nm c.m c.k pv dom) := HG.out.1.below hB6.bel
      have HD6 := Lib.hid (And.intro hB6 h7)
      clear h6 hB6 HD5 hS5 h7
      refine ⟨hS6, ?_⟩
      (apply reg_take 7 rfl rfl (by decide +kernel) rfl); (intro w' hw'; go_simp; rfl); exact hS6; simp only [List.setIfInBounds_toArray, List.set_cons_succ, List.set_cons_zero]
      (apply reg_take 8 rfl rfl (by decide +kernel) rfl); (intro w' hw'; go_simp; rfl); exact hS6; simp only [List.setIfInBounds_toArray, List.set_cons_succ, List.set_cons_zero]
      (apply reg_take 9 rfl rfl (by decide +kernel) rfl); (intro w' hw'; go_simp; rfl); exact hS6; simp only [List.setIfInBounds_toArray, List.set_cons_succ, List.set_cons_zero]
      (apply reg_take 10 rfl rfl (by decide +kernel) rfl); (intro w' hw'; go_simp; rfl); exact hS6; simp only [List.setIfInBounds_toArray, List.set_cons_succ, List.set_cons_zero]
      (apply reg_take 11 rfl rfl (by decide +kernel) rfl); (intro w' hw'; go_simp; rfl); exact hS6; simp only [List.setIfInBounds_toArray, List.set_cons_succ, List.set_cons_zero]
      refine reg_done (by decide +kernel) ?_
      clear hS6 hS0
      cases R with
      | true =>
        go_wp2
        go_ret3
        refine ⟨by first | exact HB0.out.trans (HD6.out.1.bel.mono HGS.out) | (rw [hgs]; exact HB0.out.trans (HD6.out.1.bel.mono HGS.out)), _, _, rfl, HG.out.2.2.below HD6.out.1.bel, ?_⟩
        obtain ⟨L, h8, h9⟩ := HD6.out.2 trivial
        exact ⟨L, h8, h9⟩
      | false =>
        go_wp2
        go_ret3
        exact ⟨by first | exact HB0.out.trans (HD6.out.1.bel.mono HGS.out) | (rw [hgs]; exact HB0.out.trans (HD6.out.1.bel.mono HGS.out)), _, _, rfl⟩
end Go.Proofs.YteikbikopgabjaaGreatDoor
namespace Go.Proofs.YteikbikopgabjaaGreatDoor
open Go.RowKit Go.GF Go.Sl
abbrev TTe : TypeId := 179
theorem info_term : (Tryz.prog.info? TTe).map (fun i => (i.zero, i.size, i.bytes)) = some (some (.agg #[.int .i64 0, .int .i64 0]), 2, 16) := by kernel_rfl
structure CmS (w1 : World) (n : Nat) (tv iv : Value) (wr : World) : Prop where
  st : ∃ (i k : Nat) (xs : List Value), i ≤ n ∧ k ≤ i ∧ iv = .int .i64 (i : Int) ∧ Same w1 wr ∧ Sat wr (ownAt TTe 2 tv k xs * old w1)
set_option maxRecDepth 20000 in
set_option maxHeartbeats 4000000 in
theorem rcomb_any (cv : Array Value) (c : CodeM) (hv : Value) (h : List Bool) (u : Nat) (w : World) (hc : CodeAt w cv c) (hh : RowI w hv (boolsV h)) (hl : h.length = c.n) (hu : u < c.n) :
    Calls Tryz.prog 70 #[.agg cv, hv, .int .i64 (u : Int)] w fun e w' => Below w.heap.size w w' ∧ ∃ tv, e = .returned (.tuple #[tv, .int .i64 (if recR c h u then 0 else 11)]) := by
  have HCF := Lib.hid (fun t => rcoef_any cv c hv h u (w.alloc (.cells cv t)) (hc.below (al_below w _)) (hh.below (al_below w _)) hl hu)
  have HLN := Lib.hid (show (basisR c (units h)).length ≤ 32 from by
    have h1 := basisR_len c (units h)
    have h2 := units_len h
    have h3 := hc.n32
    omega)
  have HAB := Lib.hid (fun t => (al_below w (.cells cv t)))
  obtain ⟨⟨nm, pv, dom, rfl, -⟩, -, -, -⟩ := hc
  obtain ⟨ah, ch, rfl, -⟩ := id hh
  rw [boolsV_len] at *
  clear hh hl hu
  generalize basisR c (units h) = us at *
  generalize recR c h u = R at *
  unfold codeV at *
  cases R with
  | false =>
    go_enter Tryz.func70, Tryz.ntmps70
    go_wp2_with (go_at_call 98; refine (HCF.out _).mono ?_; rintro e w1 ⟨h1, bv, xv, rfl, -⟩; have HB := Lib.hid ((HAB.out _).trans (h1.mono (HAB.out _).size)); clear h1; simp only [Bool.false_eq_true, if_false])
    go_ret2
    exact ⟨HB.out, _, rfl⟩
  | true =>
    go_enter Tryz.func70, Tryz.ntmps70
    go_wp2_with (go_at_call 98; refine (HCF.out _).mono ?_; rintro e w1 ⟨h1, bv, xv, rfl, h2⟩; obtain ⟨h3, L, h4, h5⟩ := h2 rfl; obtain ⟨ab, cb, rfl, -⟩ := id h3; obtain ⟨ax, cx, rfl, -⟩ := id h5; rw [intsV_len, natsI_len] at h3; rw [intsV_len, h4] at h5; rw [intsV_len, natsI_len, intsV_len, h4]; have HB := Lib.hid (And.intro ((HAB.out _).trans (h1.mono (HAB.out _).size)) (And.intro h3 (And.intro h4 h5))); clear h1 h2 h3 h4 h5; simp only [if_true])
    clear HCF HAB
    go_loopw [11, 12] (fun tv iv wr => CmS w1 us.length tv iv wr) (fun _ iv _ => us.length - (intOf iv).toNat)
    case atStart => exact ⟨⟨0, 0, [], Nat.zero_le _, Nat.le_refl _, rfl, Same.refl _, ownAt_nil.2 (Sat.old w1)⟩⟩
    case round =>
      obtain ⟨i, k, xs, hi, hk, rfl, hsm, hst⟩ := hrel.st
      clear hrel
      have HS := Lib.hid (And.intro hsm hst)
      have hb := hsm.below_of hst
      have HBW := Lib.hid hb
      obtain ⟨at_, ct, rfl⟩ := ownAt_slice hst
      clear hsm hst
      by_cases hin : i < us.length
      · have hid : decide ((i : Int) < (us.length : Int)) = true := decide_eq_true (by omega)
        have hus := HLN.out
        have hwi : IntKind.i64.wrap ((i : Int) + 1) = (i : Int) + 1 := IntWalk.i64_in _ (by omega)
        obtain ⟨p, hp⟩ : ∃ p, us[i]? = some p := ⟨_, List.getElem?_eq_getElem (by omega)⟩
        obtain ⟨q, hq⟩ : ∃ q, L[i]? = some q := ⟨_, List.getElem?_eq_getElem (by have := HB.out.2.2.1; omega)⟩
        obtain ⟨-, b, off, rfl, c1⟩ := rowI_at HB.out.2.1 (show (natsI us)[i]? = some (p : Int) by unfold natsI; rw [List.getElem?_map, hp]; rfl)
        obtain ⟨-, b2, off2, rfl, c2⟩ := rowI_at HB.out.2.2.2 hq
        have HC := Lib.hid (show ∀ W, Below w1.heap.size w1 W → W.cell? ⟨b, off + i, none⟩ = some (.int .i64 (p : Int)) ∧ W.cell? ⟨b2, off2 + i, none⟩ = some (.int .i64 q) from fun W hb =>
          ⟨(hb.cell (p := ⟨b, off + i, none⟩) (World.block_lt_of_cell? _ _ c1)).trans c1, (hb.cell (p := ⟨b2, off2 + i, none⟩) (World.block_lt_of_cell? _ _ c2)).trans c2⟩)
        clear c1 c2 hp hq
        obtain ⟨e1, e2⟩ := HC.out wr hb
        by_cases h0 : q = 0
        · subst h0
          clear hb
          go_wp2
          go_roundw
          case rel => exact ⟨⟨i + 1, k, xs, by omega, by omega, rfl, HS.out⟩⟩
          case measure => simp only [intOf]; omega
        · have h0d : (q != 0) = true := by simpa using h0
          clear hb h0
          go_upto_region 9 with (fail)
          have hS0 : wr.drew.cell? ⟨b, off + i, none⟩ = some (.int .i64 (p : Int)) ∧ wr.drew.cell? ⟨b2, off2 + i, none⟩ = some (.int .i64 q) := ⟨e1, e2⟩
          refine reg_begin (fun w' => w'.cell? ⟨b, off + i, none⟩ = some (.int .i64 (p : Int)) ∧ w'.cell? ⟨b2, off2 + i, none⟩ = some (.int .i64 q)) (by kernel_rfl) ?_
          (apply reg_take 0 rfl rfl (by decide +kernel) rfl); (rintro w' ⟨d1, d2⟩; go_simp; rfl); exact hS0; simp only [List.setIfInBounds_toArray, List.set_cons_succ, List.set_cons_zero]
          (apply reg_take 1 rfl rfl (by decide +kernel) rfl); (rintro w' ⟨d1, d2⟩; go_simp; rfl); exact hS0; simp only [List.setIfInBounds_toArray, List.set_cons_succ, List.set_cons_zero]
          (apply reg_take 2 rfl rfl (by decide +kernel) rfl); (rintro w' ⟨d1, d2⟩; go_simp; rfl); exact hS0; simp only [List.setIfInBounds_toArray, List.set_cons_succ, List.set_cons_zero]
          (apply reg_take 3 rfl rfl (by decide +kernel) rfl); (rintro w' ⟨d1, d2⟩; go_simp; rfl); exact hS0; simp only [List.setIfInBounds_toArray, List.set_cons_succ, List.set_cons_zero]
          (apply reg_take 4 rfl rfl (by decide +kernel) rfl); (rintro w' ⟨d1, d2⟩; go_simp; rfl); exact hS0; simp only [List.setIfInBounds_toArray, List.set_cons_succ, List.set_cons_zero]
          (apply reg_take 5 rfl rfl (by decide +kernel) rfl); (rintro w' ⟨d1, d2⟩; go_simp; rfl); exact hS0; simp only [List.setIfInBounds_toArray, List.set_cons_succ, List.set_cons_zero]
          (apply reg_take 6 rfl rfl (by decide +kernel) rfl); (rintro w' ⟨d1, d2⟩; go_simp; rfl); exact hS0; simp only [List.setIfInBounds_toArray, List.set_cons_succ, List.set_cons_zero]
          (apply reg_take 7 rfl rfl (by decide +kernel) rfl); (rintro w' ⟨d1, d2⟩; go_simp; rfl); exact hS0; simp only [List.setIfInBounds_toArray, List.set_cons_succ, List.set_cons_zero]
          (apply reg_take 8 rfl rfl (by decide +kernel) rfl); (rintro w' ⟨d1, d2⟩; go_simp; rfl); exact hS0; simp only [List.setIfInBounds_toArray, List.set_cons_succ, List.set_cons_zero]
          (apply reg_take 9 rfl rfl (by decide +kernel) rfl); (rintro w' ⟨d1, d2⟩; go_simp; rfl); exact hS0; simp only [List.setIfInBounds_toArray, List.set_cons_succ, List.set_cons_zero]
          have hA := HS.out.2.drew.alloc (.cells #[.int .i64 (p : Int), .int .i64 q] TTe)
          have hS1 : (wr.drew.alloc (.cells #[.int .i64 (p : Int), .int .i64 q] TTe)).cell? ⟨b, off + i, none⟩ = some (.int .i64 (p : Int)) ∧ (wr.drew.alloc (.cells #[.int .i64 (p : Int), .int .i64 q] TTe)).cell? ⟨b2, off2 + i, none⟩ = some (.int .i64 q) :=
            HC.out _ (HBW.out.drew.trans ((al_below wr.drew _).mono HBW.out.drew.size))
          refine reg_run 10 (.slice (some ⟨wr.drew.heap.size, 0, none⟩) 1 1) (wr.drew.alloc (.cells #[.int .i64 (p : Int), .int .i64 q] TTe)) rfl rfl (by decide +kernel) rfl (by go_simp) (hS1) ?_; simp only [List.setIfInBounds_toArray, List.set_cons_succ, List.set_cons_zero]
          obtain ⟨ti, hti, hz0, hts, hz2⟩ := info_parts info_term
          have hA6 := hA.perm (show _ = ownAt TTe 2 (.slice at_ k ct) k xs * (pts wr.drew.heap.size (.cells #[.int .i64 (p : Int), .int .i64 q] TTe (0, 0)) * old w1) by ac_rfl)
          obtain ⟨v', w7, hr, hsm7, hs7⟩ := run_append_ownAt (P := Tryz.prog) 151 151 TTe ti _ Tryz.underlying151 hti hz0 (by rw [hts]; rfl) (.slice at_ k ct) k xs (by rw [hts]; exact hA6) ⟨wr.drew.heap.size, 0, none⟩ 1 1 [.int .i64 (p : Int), .int .i64 q] (by rw [hts]; rfl)
            (by intro j u hu; rw [Addr.add_mid, cells_at hA6.right.block, Nat.zero_add]; simpa using hu) (by simp [Value.oneCell']) (by unfold maxLen; omega) (by rw [hz2]; omega)
          rw [hts] at hs7
          have HN := Lib.hid (show Same w1 w7 ∧ Sat w7 (ownAt TTe 2 v' (k + 1) (xs ++ [.int .i64 (p : Int), .int .i64 q]) * old w1) from ⟨(HS.out.1.drew.alloc _).trans hsm7, (hs7.perm (show _ = pts wr.drew.heap.size (.cells #[.int .i64 (p : Int), .int .i64 q] TTe (0, 0)) * (ownAt TTe 2 v' (k + 1) (xs ++ [.int .i64 (p : Int), .int .i64 q]) * old w1) by ac_rfl)).right⟩)
          have hS7 := HC.out w7 (HN.out.1.below_of HN.out.2)
          refine reg_run 11 (v') (w7) rfl rfl (by decide +kernel) rfl (exec_appG rfl rfl rfl hr) (hS7) ?_; simp only [List.setIfInBounds_toArray, List.set_cons_succ, List.set_cons_zero]
          (apply reg_take 12 rfl rfl (by decide +kernel) rfl); (rintro w' ⟨d1, d2⟩; go_simp; rfl); exact hS7; simp only [List.setIfInBounds_toArray, List.set_cons_succ, List.set_cons_zero]
          refine reg_done (by decide +kernel) ?_
          clear hS0 hS1 hS7 hA hA6 hsm7 hs7 hr hti hz0 hts hz2 e1 e2
          go_wp2
          go_roundw
          case rel => exact ⟨⟨i + 1, k + 1, _, by omega, by omega, rfl, HN.out⟩⟩
          case measure => simp only [intOf]; omega
      · have hid : decide ((i : Int) < (us.length : Int)) = false := decide_eq_false (by omega)
        clear hb
        go_wp2
        go_ret2
        exact ⟨HB.out.1.trans (HBW.out.mono HB.out.1.size), _, rfl⟩
set_option maxRecDepth 20000 in
theorem rrec_any (cv : Array Value) (c : CodeM) (hv : Value) (h : List Bool) (u : Nat) (w : World) (hc : CodeAt w cv c) (hh : RowI w hv (boolsV h)) (hl : h.length = c.n) (hu : u < c.n) :
    Calls Tryz.prog 45 #[.agg cv, hv, .int .i64 (u : Int)] w fun e w' => e = .returned (.bool (recR c h u)) ∧ Below w.heap.size w w' := by
  have HCM := Lib.hid (fun t => rcomb_any cv c hv h u (w.alloc (.cells cv t)) (hc.below (al_below w _)) (hh.below (al_below w _)) hl hu)
  have HAB := Lib.hid (fun t => (al_below w (.cells cv t)))
  obtain ⟨⟨nm, pv, dom, rfl, -⟩, -, -, -⟩ := hc
  obtain ⟨ah, ch, rfl, -⟩ := id hh
  rw [boolsV_len] at *
  clear hh hl hu
  unfold codeV at *
  cases hR : recR c h u with
  | true =>
    rw [hR] at HCM
    clear hR
    go_enter Tryz.func45, Tryz.ntmps45
    go_wp2_with (go_at_call 70; refine (HCM.out _).mono ?_; rintro e w1 ⟨h1, tv, rfl⟩; have HB := Lib.hid ((HAB.out _).trans (h1.mono (HAB.out _).size)); clear h1; simp only [if_true])
    go_ret
    exact ⟨rfl, HB.out⟩
  | false =>
    rw [hR] at HCM
    clear hR
    go_enter Tryz.func45, Tryz.ntmps45
    go_wp2_with (go_at_call 70; refine (HCM.out _).mono ?_; rintro e w1 ⟨h1, tv, rfl⟩; have HB := Lib.hid ((HAB.out _).trans (h1.mono (HAB.out _).size)); clear h1; simp only [Bool.false_eq_true, if_false])
    go_ret
    exact ⟨rfl, HB.out⟩
end Go.Proofs.YteikbikopgabjaaGreatDoor
