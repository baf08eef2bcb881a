import Derived.Test.YtmcclbiaoeilkaaGreatP20
import Derived.Test.YtmcclbiaoeilkaaGreatP07
/- Part 21 of a proof; the last part says what is proved. -/
section
namespace Go.Proofs.YtmcclbiaoeilkaaGreat
open Go.RowKit Go.Sl Go.ChangeMaps
def NwOut (p : Nat) (S : ShelfM) (F : HProp) (r : Int × CkM × Int) (w : World) (e : Ending) (w' : World) : Prop := e = .returned (.tuple #[.int .i64 r.1, .agg (ckA r.2.1), .int .i64 r.2.2]) ∧ Same w w' ∧ Sat w' (shelfAt SH p S * F)
def nwF (p : Nat) (S : ShelfM) (r a b : Nat) (R A B : Array Value) (X : HProp) : HProp := shelfAt SH p S * (pts r (.cells R TCk (0, 0)) * (pts a (.cells A TCk (0, 0)) * (pts b (.cells B TCk (0, 0)) * X)))
theorem nwF_cells {p : Nat} {S : ShelfM} {r a b : Nat} {r0 r1 r2 r3 a0 a1 a2 a3 b0 b1 b2 b3 : Value} {X : HProp} {w : World} (h : Sat w (nwF p S r a b #[r0, r1, r2, r3] #[a0, a1, a2, a3] #[b0, b1, b2, b3] X)) :
    (w.frozen? ⟨r, 0, none⟩ = false ∧ w.frozen? ⟨r, 1, none⟩ = false ∧ w.frozen? ⟨r, 2, none⟩ = false ∧ w.frozen? ⟨r, 3, none⟩ = false) ∧ (w.cell? ⟨r, 0, none⟩ = some r0 ∧ w.cell? ⟨r, 1, none⟩ = some r1 ∧ w.cell? ⟨r, 2, none⟩ = some r2 ∧ w.cell? ⟨r, 3, none⟩ = some r3) ∧
    (w.cell? ⟨a, 0, none⟩ = some a0 ∧ w.cell? ⟨a, 1, none⟩ = some a1 ∧ w.cell? ⟨a, 2, none⟩ = some a2 ∧ w.cell? ⟨a, 3, none⟩ = some a3) ∧ (w.cell? ⟨b, 0, none⟩ = some b0 ∧ w.cell? ⟨b, 1, none⟩ = some b1 ∧ w.cell? ⟨b, 2, none⟩ = some b2 ∧ w.cell? ⟨b, 3, none⟩ = some b3) := by
  unfold nwF at h
  have h1 := h.right.block
  have h2 := h.right.right.block
  have h3 := h.right.right.right.block
  exact ⟨⟨thawed_at h1 0, thawed_at h1 1, thawed_at h1 2, thawed_at h1 3⟩, ⟨cells_at h1 0, cells_at h1 1, cells_at h1 2, cells_at h1 3⟩, ⟨cells_at h2 0, cells_at h2 1, cells_at h2 2, cells_at h2 3⟩, cells_at h3 0, cells_at h3 1, cells_at h3 2, cells_at h3 3⟩
theorem nwF_res {p : Nat} {S : ShelfM} {r a b : Nat} {r0 r1 r2 r3 : Value} {A B : Array Value} {X : HProp} {w : World} (h : Sat w (nwF p S r a b #[r0, r1, r2, r3] A B X)) (x y z u : Value) :
    Sat ((((w.setCell ⟨r, 0, none⟩ x).setCell ⟨r, 1, none⟩ y).setCell ⟨r, 2, none⟩ z).setCell ⟨r, 3, none⟩ u) (pts r (.cells #[x, y, z, u] TCk (0, 0)) * (shelfAt SH p S * (pts a (.cells A TCk (0, 0)) * (pts b (.cells B TCk (0, 0)) * X)))) := by
  unfold nwF at h
  exact ((((h.perm (show _ = pts r (.cells #[r0, r1, r2, r3] TCk (0, 0)) * (shelfAt SH p S * (pts a (.cells A TCk (0, 0)) * (pts b (.cells B TCk (0, 0)) * X))) from by ac_rfl)).setCell (i := 0) x).setCell (i := 1) y).setCell (i := 2) z).setCell (i := 3) u
set_option maxRecDepth 20000 in
set_option maxHeartbeats 4000000 in
theorem newest_any (p : Nat) (S : ShelfM) (F : HProp) (d : Int) (w : World) (hS : Sat w (shelfAt SH p S * F)) :
    Calls Tryz.prog 18 #[.pointer (some ⟨p, 0, none⟩), .int .i64 d] w (NwOut p S F (newestM S d) w) := by
  obtain ⟨N, hN⟩ : ∃ N, newestM S d = N := ⟨_, rfl⟩
  rw [hN]
  unfold newestM at hN
  obtain ⟨⟨⟨⟨ae, ac⟩, asq, ai⟩, ea⟩, hra⟩ : ∃ r, ckRead S d 2 = r := ⟨_, rfl⟩
  obtain ⟨⟨⟨⟨be, bc⟩, bsq, bi⟩, eb⟩, hrb⟩ : ∃ r, ckRead S d 3 = r := ⟨_, rfl⟩
  have HA := Lib.hid (show ∀ (W : World) (X : HProp), Sat W (shelfAt SH p S * X) → Calls Tryz.prog 20 #[.pointer (some ⟨p, 0, none⟩), .int .i64 d, .int .i64 2] W (CkOut p S X (⟨⟨ae, ac⟩, asq, ai⟩, ea) W) from fun W X h => by rw [← hra]; exact ckread_any p S X d 2 W h)
  have HB := Lib.hid (show ∀ (W : World) (X : HProp), Sat W (shelfAt SH p S * X) → Calls Tryz.prog 20 #[.pointer (some ⟨p, 0, none⟩), .int .i64 d, .int .i64 3] W (CkOut p S X (⟨⟨be, bc⟩, bsq, bi⟩, eb) W) from fun W X h => by rw [← hrb]; exact ckread_any p S X d 3 W h)
  rw [hra, hrb] at hN
  simp only at hN
  have HN := Lib.hid hN
  have HNW := Lib.hid (show ∀ W, Calls Tryz.prog 69 #[.agg #[.int .i64 be, .int .i64 bc], .agg #[.int .i64 ae, .int .i64 ac]] W fun e w' => e = .returned (.bool (newerM ⟨be, bc⟩ ⟨ae, ac⟩)) ∧ Below W.heap.size W w' from fun W => newer_any ⟨be, bc⟩ ⟨ae, ac⟩ W)
  have H1 := Lib.hid (And.intro ((Same.refl w).alloc (.cells #[.int .i64 0, .int .i64 0, .int .i64 0, .string ⟨#[]⟩] TCk)) ((hS.alloc (.cells #[.int .i64 0, .int .i64 0, .int .i64 0, .string ⟨#[]⟩] TCk)).perm (show _ = shelfAt SH p S * (pts w.heap.size (.cells #[.int .i64 0, .int .i64 0, .int .i64 0, .string ⟨#[]⟩] TCk (0, 0)) * F) from by ac_rfl)))
  clear hN hra hrb hS
  go_enter Tryz.func18, Tryz.ntmps18
  go_upto_region 1 with ((with_reducible (refine wpList_alloc_zero ?_ TCk ?_ _ (zeroCk _) ?_)); rfl; rfl)
  generalize w.alloc (.cells #[.int .i64 0, .int .i64 0, .int .i64 0, .string ⟨#[]⟩] TCk) = w1 at H1 ⊢
  generalize w.heap.size = rB at H1 ⊢
  go_upto_region 2 with (go_at_call 20; refine (HA.out w1 _ H1.out.2).mono ?_; rintro e w2 ⟨rfl, h2, h3⟩; replace H1 := Lib.hid (And.intro (H1.out.1.trans h2) h3); clear h2 h3; unfold ckA)
  replace H1 := Lib.hid (And.intro (H1.out.1.alloc (.cells #[.int .i64 ae, .int .i64 ac, .int .i64 asq, .string (strB ai)] TCk)) ((H1.out.2.alloc (.cells #[.int .i64 ae, .int .i64 ac, .int .i64 asq, .string (strB ai)] TCk)).perm (show _ = shelfAt SH p S * (pts rB (.cells #[.int .i64 0, .int .i64 0, .int .i64 0, .string ⟨#[]⟩] TCk (0, 0)) * (pts w2.heap.size (.cells #[.int .i64 ae, .int .i64 ac, .int .i64 asq, .string (strB ai)] TCk (0, 0)) * F)) from by ac_rfl)))
  generalize w2.alloc (.cells #[.int .i64 ae, .int .i64 ac, .int .i64 asq, .string (strB ai)] TCk) = w3 at H1 ⊢
  generalize w2.heap.size = aB at H1 ⊢
  go_upto_region 3 with (go_at_call 20; refine (HB.out w3 _ H1.out.2).mono ?_; rintro e w4 ⟨rfl, h2, h3⟩; replace H1 := Lib.hid (And.intro (H1.out.1.trans h2) h3); clear h2 h3; unfold ckA)
  replace H1 := Lib.hid (And.intro (H1.out.1.alloc (.cells #[.int .i64 be, .int .i64 bc, .int .i64 bsq, .string (strB bi)] TCk)) ((H1.out.2.alloc (.cells #[.int .i64 be, .int .i64 bc, .int .i64 bsq, .string (strB bi)] TCk)).perm (show _ = nwF p S rB aB w4.heap.size #[.int .i64 0, .int .i64 0, .int .i64 0, .string ⟨#[]⟩] #[.int .i64 ae, .int .i64 ac, .int .i64 asq, .string (strB ai)] #[.int .i64 be, .int .i64 bc, .int .i64 bsq, .string (strB bi)] F from by unfold nwF; ac_rfl)))
  generalize w4.alloc (.cells #[.int .i64 be, .int .i64 bc, .int .i64 bsq, .string (strB bi)] TCk) = w5 at H1 ⊢
  generalize w4.heap.size = bB at H1 ⊢
  clear HA HB
  have HFIN := Lib.hid (show ∀ (W : World) (r : Int × CkM × Int), Same w W → Sat W (pts rB (.cells (ckA r.2.1) TCk (0, 0)) * (shelfAt SH p S * (pts aB (.cells #[.int .i64 ae, .int .i64 ac, .int .i64 asq, .string (strB ai)] TCk (0, 0)) * (pts bB (.cells #[.int .i64 be, .int .i64 bc, .int .i64 bsq, .string (strB bi)] TCk (0, 0)) * F)))) → N = r → NwOut p S F N w (.returned (.tuple #[.int .i64 r.1, .agg (ckA r.2.1), .int .i64 r.2.2])) W from fun W r h1 h2 h3 => by
    subst h3
    exact ⟨rfl, h1, (h2.perm (show _ = (pts rB (.cells (ckA N.2.1) TCk (0, 0)) * (pts aB (.cells #[.int .i64 ae, .int .i64 ac, .int .i64 asq, .string (strB ai)] TCk (0, 0)) * pts bB (.cells #[.int .i64 be, .int .i64 bc, .int .i64 bsq, .string (strB bi)] TCk (0, 0)))) * (shelfAt SH p S * F) from by ac_rfl)).right⟩)
  obtain ⟨⟨f0, f1, f2, f3⟩, ⟨r0, r1, r2, r3⟩, ⟨a0, a1, a2, a3⟩, b0, b1, b2, b3⟩ := nwF_cells H1.out.2
  by_cases heb : eb = 0
  case neg =>
    have hed : (eb == 0) = false := by simp [heb]
    by_cases hea : ea = 0
    case neg =>
      have hed2 : (ea == 0) = false := by simp [hea]
      have HR := Lib.hid (show N = (0, ck0, ea) from by rw [← HN.out, if_neg (fun h => heb h.1), if_neg hea])
      clear heb hea HN HNW
      go_wp2
      have H2 := Lib.hid (And.intro ((((H1.out.1.setCell ⟨rB, 0, none⟩ (.int .i64 0)).setCell ⟨rB, 1, none⟩ (.int .i64 0)).setCell ⟨rB, 2, none⟩ (.int .i64 0)).setCell ⟨rB, 3, none⟩ (.string ⟨#[]⟩)) (nwF_res H1.out.2 (.int .i64 0) (.int .i64 0) (.int .i64 0) (.string ⟨#[]⟩)))
      refine bodyPost_ret (v := .tuple #[.int .i64 0, .agg #[.int .i64 0, .int .i64 0, .int .i64 0, .string ⟨#[]⟩], .int .i64 ea]) (results3 Tryz.results18 (.tmp rfl) (ResIs.row rfl H2.out.2.block Tryz.underlying44 rfl (infoCk rfl)) (.tmp rfl)) rfl ?_
      exact HFIN.out _ (0, ck0, ea) H2.out.1 (H2.out.2.perm (by ac_rfl)) HR.out
    case pos =>
      subst hea
      have HR := Lib.hid (show N = (2, ⟨⟨ae, ac⟩, asq, ai⟩, 0) from by rw [← HN.out, if_neg (fun h => heb h.1), if_pos rfl])
      clear heb HN HNW
      go_upto_region 6 with (fail)
      refine reg_begin (fun w' => w'.cell? ⟨aB, 0, none⟩ = some (.int .i64 ae) ∧ w'.cell? ⟨aB, 1, none⟩ = some (.int .i64 ac) ∧ w'.cell? ⟨aB, 2, none⟩ = some (.int .i64 asq) ∧ w'.cell? ⟨aB, 3, none⟩ = some (.string (strB ai))) (by kernel_rfl) ?_
      replace H1 := Lib.hid (And.intro H1.out.1.drew H1.out.2.drew)
      generalize w5.drew = wx at H1 ⊢
      clear f0 f1 f2 f3 r0 r1 r2 r3 a0 a1 a2 a3 b0 b1 b2 b3
      obtain ⟨⟨f0, f1, f2, f3⟩, ⟨r0, r1, r2, r3⟩, ⟨a0, a1, a2, a3⟩, b0, b1, b2, b3⟩ := nwF_cells H1.out.2
      have hS0 := And.intro a0 (And.intro a1 (And.intro a2 a3))
      (apply reg_take 0 rfl rfl (by decide +kernel) rfl); (rintro w' ⟨q0, q1, q2, q3⟩; go_simp; rfl); exact hS0; simp only [List.setIfInBounds_toArray, List.set_cons_succ, List.set_cons_zero]
      (apply reg_take 1 rfl rfl (by decide +kernel) rfl); (intro w' _; go_simp; rfl); exact hS0; simp only [List.setIfInBounds_toArray, List.set_cons_succ, List.set_cons_zero]
      have H2 := Lib.hid (And.intro ((((H1.out.1.setCell ⟨rB, 0, none⟩ (.int .i64 ae)).setCell ⟨rB, 1, none⟩ (.int .i64 ac)).setCell ⟨rB, 2, none⟩ (.int .i64 asq)).setCell ⟨rB, 3, none⟩ (.string (strB ai))) (nwF_res H1.out.2 (.int .i64 ae) (.int .i64 ac) (.int .i64 asq) (.string (strB ai))))
      have hS1 := (nwF_cells (H2.out.2.perm (show _ = nwF p S rB aB bB #[.int .i64 ae, .int .i64 ac, .int .i64 asq, .string (strB ai)] #[.int .i64 ae, .int .i64 ac, .int .i64 asq, .string (strB ai)] #[.int .i64 be, .int .i64 bc, .int .i64 bsq, .string (strB bi)] F from by unfold nwF; ac_rfl))).2.2.1
      refine reg_do 2 (((((wx.setCell ⟨rB, 0, none⟩ (.int .i64 ae)).setCell ⟨rB, 1, none⟩ (.int .i64 ac)).setCell ⟨rB, 2, none⟩ (.int .i64 asq)).setCell ⟨rB, 3, none⟩ (.string (strB ai)))) rfl rfl (by decide +kernel) rfl (by go_simp) (hS1) ?_
      (apply reg_take 3 rfl rfl (by decide +kernel) rfl); (intro w' _; go_simp; rfl); exact hS1; simp only [List.setIfInBounds_toArray, List.set_cons_succ, List.set_cons_zero]
      refine reg_done (by decide +kernel) ?_
      go_wp2
      refine bodyPost_ret (v := .tuple #[.int .i64 2, .agg #[.int .i64 ae, .int .i64 ac, .int .i64 asq, .string (strB ai)], .int .i64 0]) (results3 Tryz.results18 (.tmp rfl) (ResIs.row rfl H2.out.2.block Tryz.underlying44 rfl (infoCk rfl)) (.tmp rfl)) rfl ?_
      exact HFIN.out _ (2, ⟨⟨ae, ac⟩, asq, ai⟩, 0) H2.out.1 (H2.out.2.perm (by ac_rfl)) HR.out
  case pos =>
    subst heb
    by_cases hea : ea = 0
    case neg =>
      have hed2 : (ea != 0) = true := bne_iff_ne.2 hea
      have HR := Lib.hid (show N = (3, ⟨⟨be, bc⟩, bsq, bi⟩, 0) from by rw [← HN.out, if_pos ⟨rfl, .inl hea⟩])
      clear hea HN HNW
      go_upto_region 4 with (fail)
      refine reg_begin (fun w' => w'.cell? ⟨bB, 0, none⟩ = some (.int .i64 be) ∧ w'.cell? ⟨bB, 1, none⟩ = some (.int .i64 bc) ∧ w'.cell? ⟨bB, 2, none⟩ = some (.int .i64 bsq) ∧ w'.cell? ⟨bB, 3, none⟩ = some (.string (strB bi))) (by kernel_rfl) ?_
      replace H1 := Lib.hid (And.intro H1.out.1.drew H1.out.2.drew)
      generalize w5.drew = wx at H1 ⊢
      clear f0 f1 f2 f3 r0 r1 r2 r3 a0 a1 a2 a3 b0 b1 b2 b3
      obtain ⟨⟨f0, f1, f2, f3⟩, ⟨r0, r1, r2, r3⟩, ⟨a0, a1, a2, a3⟩, b0, b1, b2, b3⟩ := nwF_cells H1.out.2
      have hS0 := And.intro b0 (And.intro b1 (And.intro b2 b3))
      (apply reg_take 0 rfl rfl (by decide +kernel) rfl); (rintro w' ⟨q0, q1, q2, q3⟩; go_simp; rfl); exact hS0; simp only [List.setIfInBounds_toArray, List.set_cons_succ, List.set_cons_zero]
      (apply reg_take 1 rfl rfl (by decide +kernel) rfl); (intro w' _; go_simp; rfl); exact hS0; simp only [List.setIfInBounds_toArray, List.set_cons_succ, List.set_cons_zero]
      have H2 := Lib.hid (And.intro ((((H1.out.1.setCell ⟨rB, 0, none⟩ (.int .i64 be)).setCell ⟨rB, 1, none⟩ (.int .i64 bc)).setCell ⟨rB, 2, none⟩ (.int .i64 bsq)).setCell ⟨rB, 3, none⟩ (.string (strB bi))) (nwF_res H1.out.2 (.int .i64 be) (.int .i64 bc) (.int .i64 bsq) (.string (strB bi))))
      have hS1 := (nwF_cells (H2.out.2.perm (show _ = nwF p S rB aB bB #[.int .i64 be, .int .i64 bc, .int .i64 bsq, .string (strB bi)] #[.int .i64 ae, .int .i64 ac, .int .i64 asq, .string (strB ai)] #[.int .i64 be, .int .i64 bc, .int .i64 bsq, .string (strB bi)] F from by unfold nwF; ac_rfl))).2.2.2
      refine reg_do 2 (((((wx.setCell ⟨rB, 0, none⟩ (.int .i64 be)).setCell ⟨rB, 1, none⟩ (.int .i64 bc)).setCell ⟨rB, 2, none⟩ (.int .i64 bsq)).setCell ⟨rB, 3, none⟩ (.string (strB bi)))) rfl rfl (by decide +kernel) rfl (by go_simp) (hS1) ?_
      (apply reg_take 3 rfl rfl (by decide +kernel) rfl); (intro w' _; go_simp; rfl); exact hS1; simp only [List.setIfInBounds_toArray, List.set_cons_succ, List.set_cons_zero]
      refine reg_done (by decide +kernel) ?_
      go_wp2
      refine bodyPost_ret (v := .tuple #[.int .i64 3, .agg #[.int .i64 be, .int .i64 bc, .int .i64 bsq, .string (strB bi)], .int .i64 0]) (results3 Tryz.results18 (.tmp rfl) (ResIs.row rfl H2.out.2.block Tryz.underlying44 rfl (infoCk rfl)) (.tmp rfl)) rfl ?_
      exact HFIN.out _ (3, ⟨⟨be, bc⟩, bsq, bi⟩, 0) H2.out.1 (H2.out.2.perm (by ac_rfl)) HR.out
    case pos =>
      subst hea
      cases hnw : newerM ⟨be, bc⟩ ⟨ae, ac⟩ with
      | false =>
        have HR := Lib.hid (show N = (2, ⟨⟨ae, ac⟩, asq, ai⟩, 0) from by rw [← HN.out, hnw, if_neg (by simp), if_pos rfl])
        go_upto_region 5 with (go_at_call 69; refine (HNW.out w5).mono ?_; rintro e w6 ⟨rfl, hb⟩; replace H1 := Lib.hid (And.intro (H1.out.1.below hb) (H1.out.2.below hb)); clear hb f0 f1 f2 f3 r0 r1 r2 r3 a0 a1 a2 a3 b0 b1 b2 b3; obtain ⟨⟨f0, f1, f2, f3⟩, ⟨r0, r1, r2, r3⟩, ⟨a0, a1, a2, a3⟩, b0, b1, b2, b3⟩ := nwF_cells H1.out.2; rw [hnw])
        clear hnw HN HNW
        go_upto_region 6 with (fail)
        refine reg_begin (fun w' => w'.cell? ⟨aB, 0, none⟩ = some (.int .i64 ae) ∧ w'.cell? ⟨aB, 1, none⟩ = some (.int .i64 ac) ∧ w'.cell? ⟨aB, 2, none⟩ = some (.int .i64 asq) ∧ w'.cell? ⟨aB, 3, none⟩ = some (.string (strB ai))) (by kernel_rfl) ?_
        replace H1 := Lib.hid (And.intro H1.out.1.drew H1.out.2.drew)
        generalize w6.drew = wx at H1 ⊢
        clear f0 f1 f2 f3 r0 r1 r2 r3 a0 a1 a2 a3 b0 b1 b2 b3
        obtain ⟨⟨f0, f1, f2, f3⟩, ⟨r0, r1, r2, r3⟩, ⟨a0, a1, a2, a3⟩, b0, b1, b2, b3⟩ := nwF_cells H1.out.2
        have hS0 := And.intro a0 (And.intro a1 (And.intro a2 a3))
        (apply reg_take 0 rfl rfl (by decide +kernel) rfl); (rintro w' ⟨q0, q1, q2, q3⟩; go_simp; rfl); exact hS0; simp only [List.setIfInBounds_toArray, List.set_cons_succ, List.set_cons_zero]
        (apply reg_take 1 rfl rfl (by decide +kernel) rfl); (intro w' _; go_simp; rfl); exact hS0; simp only [List.setIfInBounds_toArray, List.set_cons_succ, List.set_cons_zero]
        have H2 := Lib.hid (And.intro ((((H1.out.1.setCell ⟨rB, 0, none⟩ (.int .i64 ae)).setCell ⟨rB, 1, none⟩ (.int .i64 ac)).setCell ⟨rB, 2, none⟩ (.int .i64 asq)).setCell ⟨rB, 3, none⟩ (.string (strB ai))) (nwF_res H1.out.2 (.int .i64 ae) (.int .i64 ac) (.int .i64 asq) (.string (strB ai))))
        have hS1 := (nwF_cells (H2.out.2.perm (show _ = nwF p S rB aB bB #[.int .i64 ae, .int .i64 ac, .int .i64 asq, .string (strB ai)] #[.int .i64 ae, .int .i64 ac, .int .i64 asq, .string (strB ai)] #[.int .i64 be, .int .i64 bc, .int .i64 bsq, .string (strB bi)] F from by unfold nwF; ac_rfl))).2.2.1
        refine reg_do 2 (((((wx.setCell ⟨rB, 0, none⟩ (.int .i64 ae)).setCell ⟨rB, 1, none⟩ (.int .i64 ac)).setCell ⟨rB, 2, none⟩ (.int .i64 asq)).setCell ⟨rB, 3, none⟩ (.string (strB ai)))) rfl rfl (by decide +kernel) rfl (by go_simp) (hS1) ?_
        (apply reg_take 3 rfl rfl (by decide +kernel) rfl); (intro w' _; go_simp; rfl); exact hS1; simp only [List.setIfInBounds_toArray, List.set_cons_succ, List.set_cons_zero]
        refine reg_done (by decide +kernel) ?_
        go_wp2
        refine bodyPost_ret (v := .tuple #[.int .i64 2, .agg #[.int .i64 ae, .int .i64 ac, .int .i64 asq, .string (strB ai)], .int .i64 0]) (results3 Tryz.results18 (.tmp rfl) (ResIs.row rfl H2.out.2.block Tryz.underlying44 rfl (infoCk rfl)) (.tmp rfl)) rfl ?_
        exact HFIN.out _ (2, ⟨⟨ae, ac⟩, asq, ai⟩, 0) H2.out.1 (H2.out.2.perm (by ac_rfl)) HR.out
      | true =>
        have HR := Lib.hid (show N = (3, ⟨⟨be, bc⟩, bsq, bi⟩, 0) from by rw [← HN.out, hnw, if_pos ⟨rfl, .inr rfl⟩])
        go_upto_region 4 with (go_at_call 69; refine (HNW.out w5).mono ?_; rintro e w6 ⟨rfl, hb⟩; replace H1 := Lib.hid (And.intro (H1.out.1.below hb) (H1.out.2.below hb)); clear hb f0 f1 f2 f3 r0 r1 r2 r3 a0 a1 a2 a3 b0 b1 b2 b3; obtain ⟨⟨f0, f1, f2, f3⟩, ⟨r0, r1, r2, r3⟩, ⟨a0, a1, a2, a3⟩, b0, b1, b2, b3⟩ := nwF_cells H1.out.2; rw [hnw])
        clear hnw HN HNW
        refine reg_begin (fun w' => w'.cell? ⟨bB, 0, none⟩ = some (.int .i64 be) ∧ w'.cell? ⟨bB, 1, none⟩ = some (.int .i64 bc) ∧ w'.cell? ⟨bB, 2, none⟩ = some (.int .i64 bsq) ∧ w'.cell? ⟨bB, 3, none⟩ = some (.string (strB bi))) (by kernel_rfl) ?_
        replace H1 := Lib.hid (And.intro H1.out.1.drew H1.out.2.drew)
        generalize w6.drew = wx at H1 ⊢
        clear f0 f1 f2 f3 r0 r1 r2 r3 a0 a1 a2 a3 b0 b1 b2 b3
        obtain ⟨⟨f0, f1, f2, f3⟩, ⟨r0, r1, r2, r3⟩, ⟨a0, a1, a2, a3⟩, b0, b1, b2, b3⟩ := nwF_cells H1.out.2
        have hS0 := And.intro b0 (And.intro b1 (And.intro b2 b3))
        (apply reg_take 0 rfl rfl (by decide +kernel) rfl); (rintro w' ⟨q0, q1, q2, q3⟩; go_simp; rfl); exact hS0; simp only [List.setIfInBounds_toArray, List.set_cons_succ, List.set_cons_zero]
        (apply reg_take 1 rfl rfl (by decide +kernel) rfl); (intro w' _; go_simp; rfl); exact hS0; simp only [List.setIfInBounds_toArray, List.set_cons_succ, List.set_cons_zero]
        have H2 := Lib.hid (And.intro ((((H1.out.1.setCell ⟨rB, 0, none⟩ (.int .i64 be)).setCell ⟨rB, 1, none⟩ (.int .i64 bc)).setCell ⟨rB, 2, none⟩ (.int .i64 bsq)).setCell ⟨rB, 3, none⟩ (.string (strB bi))) (nwF_res H1.out.2 (.int .i64 be) (.int .i64 bc) (.int .i64 bsq) (.string (strB bi))))
        have hS1 := (nwF_cells (H2.out.2.perm (show _ = nwF p S rB aB bB #[.int .i64 be, .int .i64 bc, .int .i64 bsq, .string (strB bi)] #[.int .i64 ae, .int .i64 ac, .int .i64 asq, .string (strB ai)] #[.int .i64 be, .int .i64 bc, .int .i64 bsq, .string (strB bi)] F from by unfold nwF; ac_rfl))).2.2.2
        refine reg_do 2 (((((wx.setCell ⟨rB, 0, none⟩ (.int .i64 be)).setCell ⟨rB, 1, none⟩ (.int .i64 bc)).setCell ⟨rB, 2, none⟩ (.int .i64 bsq)).setCell ⟨rB, 3, none⟩ (.string (strB bi)))) rfl rfl (by decide +kernel) rfl (by go_simp) (hS1) ?_
        (apply reg_take 3 rfl rfl (by decide +kernel) rfl); (intro w' _; go_simp; rfl); exact hS1; simp only [List.setIfInBounds_toArray, List.set_cons_succ, List.set_cons_zero]
        refine reg_done (by decide +kernel) ?_
        go_wp2
        refine bodyPost_ret (v := .tuple #[.int .i64 3, .agg #[.int .i64 be, .int .i64 bc, .int .i64 bsq, .string (strB bi)], .int .i64 0]) (results3 Tryz.results18 (.tmp rfl) (ResIs.row rfl H2.out.2.block Tryz.underlying44 rfl (infoCk rfl)) (.tmp rfl)) rfl ?_
        exact HFIN.out _ (3, ⟨⟨be, bc⟩, bsq, bi⟩, 0) H2.out.1 (H2.out.2.perm (by ac_rfl)) HR.out
end Go.Proofs.YtmcclbiaoeilkaaGreat
end
section
namespace Go.Proofs.YtmcclbiaoeilkaaGreat
open Go.RowKit Go.Sl Go.ChangeMaps
set_option maxHeartbeats 400000 in
theorem up_any (p : Nat) (S : ShelfM) (F : HProp) (w : World) (hS : Sat w (shelfAt SH p S * F)) :
    Calls Tryz.prog 35 #[.pointer (some ⟨p, 0, none⟩)] w fun e w' => e = .returned (.bool (!S.off)) ∧ w = w' := by
  obtain ⟨vb, vi, ps, qs, ⟨_, h1, h2⟩, hs⟩ := shelfAt_iff.1 hS
  obtain ⟨⟨q6, q7, q8, q9, q10⟩, hp, hfp, hra⟩ := shelf_cells hs
  clear hs hS hfp hra h1 h2
  go_enter Tryz.func35, Tryz.ntmps35
  go_wp2
  go_ret
  exact ⟨rfl, rfl⟩
end Go.Proofs.YtmcclbiaoeilkaaGreat
end
