import Derived.Test.YtbegomjbakidmaaGf
/- wal.next. -/
namespace Go.Proofs.Ytbegomjbakidmaa
open Go.RowKit Go.Sl Go.ChangeMaps

def zTail : Array Value := #[.int .i64 0, .int .i64 0, .int .i64 0, .int .i64 0]
theorem zeroTail (w : World) : (zeroValue TTail).run Try.prog w = .ok (.agg zTail) w := by kernel_rfl
theorem infoTail {c : Array Value} (h : c.size = 4) : (Try.prog.info? TTail).map (·.size) = some c.size := by rw [h]; kernel_rfl
def nextO (r : Option (List UInt8 × TailM)) (t : TailM) : List UInt8 × TailM := match r with | some x => x | none => ([], t)
theorem strB_app (a b : List UInt8) : strB a ++ strB b = strB (a ++ b) := by
  apply ByteArray.ext
  simp [strB, ByteArray.data_append]
theorem nx_tail {w : World} {A R : Nat} {a b c d : Int} {X : HProp} (h : Sat w (pts A (.cells #[.int .i64 a, .int .i64 b, .int .i64 c, .int .i64 d] TTail (0, 0)) * (pts R (.cells zTail TTail (0, 0)) * X))) :
    w.cell? ⟨A, 0, none⟩ = some (.int .i64 a) ∧ w.cell? ⟨A, 1, none⟩ = some (.int .i64 b) ∧ w.cell? ⟨A, 2, none⟩ = some (.int .i64 c) ∧ w.cell? ⟨A, 3, none⟩ = some (.int .i64 d) ∧ A < w.heap.size ∧ R < w.heap.size := by
  have h1 := cells_at h.block
  exact ⟨h1 0, h1 1, h1 2, h1 3, h.lt, h.right.lt⟩
theorem nx_part {w : World} {E : Nat} {a b c d e f g : Value} {X Y Z : HProp} (h : Sat w (X * (Y * (pts E (.cells #[a, b, c, d, e, f, g] TPart (0, 0)) * Z)))) :
    w.cell? ⟨E, 0, none⟩ = some a ∧ w.cell? ⟨E, 1, none⟩ = some b ∧ w.cell? ⟨E, 2, none⟩ = some c ∧ w.cell? ⟨E, 3, none⟩ = some d ∧ w.cell? ⟨E, 4, none⟩ = some e ∧ w.cell? ⟨E, 5, none⟩ = some f ∧ w.cell? ⟨E, 6, none⟩ = some g ∧ E < w.heap.size := by
  have h1 := cells_at h.right.right.block
  exact ⟨h1 0, h1 1, h1 2, h1 3, h1 4, h1 5, h1 6, h.right.right.lt⟩
/-- What a part that is read is like. -/
structure PartL (x : PartM) : Prop where
  left : 0 ≤ x.left
  bytes : x.bytes.length ≤ 26
  num : 0 ≤ x.number ∧ x.number ≤ 4294967295
theorem readL_part {f : Nat → List UInt8} {N : Nat} {d : Int} {i : Nat} {x : PartM} (h : readL f N d i = some x) : PartL x := by
  unfold readL at h
  split at h
  · cases h
  · cases ho : openM ⟨d, 1, (i : Int)⟩ (f i) with
    | none => rw [ho] at h; cases h
    | some z =>
      rw [ho] at h
      simp only [Option.map_some, Option.some.injEq] at h
      rw [← h]
      exact ⟨Int.natCast_nonneg _, by simp only [partM, subL, List.length_take, List.length_drop]; omega, Int.natCast_nonneg _, by
        have h3 := getM_lt (subL z.2 0 4)
        have h4 : (subL z.2 0 4).length ≤ 4 := by simp [subL]; omega
        have h5 := Nat.lt_of_lt_of_le h3 (Nat.pow_le_pow_right (show 0 < 256 by decide) h4)
        simp only [partM]
        omega⟩
set_option maxHeartbeats 2000000 in
set_option maxRecDepth 20000 in
theorem wnext_none (p : Nat) (S : ShelfM) (F : HProp) (d : Int) (N : Nat) (f : Nat → List UInt8) (hN : (N : Int) = logN S.cfg) (hd : 0 ≤ d ∧ d < 64) (hr : ReadsL S d N f) (hl : ∀ j, j < N → (f j).length = 64) (tn : Nat) (nu ge gc : Int) (htn : tn ≤ 2147483647) (hnu : 0 ≤ nu ∧ nu ≤ 4294967295) (h0 : readL f N d tn = none) (w : World) (hS : Sat w (shelfAt SH p S * F)) :
    Calls Try.prog 27 #[.pointer (some ⟨p, 0, none⟩), .int .i64 d, .agg (tailA ⟨(tn : Int), nu, ⟨ge, gc⟩⟩)] w fun e w' => e = .returned (.tuple #[.string (strB []), .agg (tailA ⟨(tn : Int), nu, ⟨ge, gc⟩⟩), .bool false, .int .i64 0]) ∧ Hid (Same w w' ∧ Sat w' (shelfAt SH p S * F)) := by
  have HR := Lib.hid (show ∀ W X Y, Sat W (X * (Y * (shelfAt SH p S * F))) → Calls Try.prog 49 #[.pointer (some ⟨p, 0, none⟩), .int .i64 d, .int .i64 (tn : Int)] W fun e w' => e = .returned (.tuple #[.agg #[.int .i64 0, .int .i64 0, .int .i64 0, .int .i64 0, .int .i64 0, .int .i64 0, .string (strB [])], .bool false, .int .i64 0]) ∧ Hid (Same W w' ∧ Sat w' (X * (Y * (shelfAt SH p S * F)))) from fun W X Y h => by
    have hx0 := wread_any p S (X * (Y * F)) d tn N f hN hd hr hl W (h.perm (by ac_rfl))
    rw [h0] at hx0
    exact hx0.mono fun e w' h' => ⟨h'.1, h'.2.out.1, h'.2.out.2.perm (by ac_rfl)⟩)
  have HNW := Lib.hid (fun (a b : GenM) (W : World) => newer_any a b W)
  have H1 := Lib.hid (And.intro (((Same.refl w).alloc (.cells #[.int .i64 (tn : Int), .int .i64 nu, .int .i64 ge, .int .i64 gc] TTail)).alloc (.cells zTail TTail)) (((hS.alloc (.cells #[.int .i64 (tn : Int), .int .i64 nu, .int .i64 ge, .int .i64 gc] TTail)).alloc (.cells zTail TTail)).perm (show _ = pts w.heap.size (.cells #[.int .i64 (tn : Int), .int .i64 nu, .int .i64 ge, .int .i64 gc] TTail (0, 0)) * (pts (w.alloc (.cells #[.int .i64 (tn : Int), .int .i64 nu, .int .i64 ge, .int .i64 gc] TTail)).heap.size (.cells zTail TTail (0, 0)) * (shelfAt SH p S * F)) from by ac_rfl)))
  rw [World.size_alloc] at H1
  clear hN hd hr hl h0 hS
  go_enter Try.func27, Try.ntmps27
  go_upto_region 1 with ((with_reducible (refine wpList_alloc_zero ?_ TTail ?_ _ (zeroTail _) ?_)); rfl; rfl)
  generalize (w.alloc (.cells #[.int .i64 (tn : Int), .int .i64 nu, .int .i64 ge, .int .i64 gc] TTail)).alloc (.cells zTail TTail) = w1 at H1 ⊢
  generalize w.heap.size = B at H1 ⊢
  obtain ⟨t0, t1, t2, t3, lt, lr⟩ := nx_tail H1.out.2
  go_upto_region 2 with (go_at_call 49; refine (HR.out _ _ _ H1.out.2).mono ?_; rintro e w2 ⟨rfl, h2⟩; replace H1 := Lib.hid (And.intro (H1.out.1.trans h2.out.1) h2.out.2); clear t0 t1 t2 t3 lt lr; clear h2; obtain ⟨t0, t1, t2, t3, lt, lr⟩ := nx_tail H1.out.2)
  have hw := H1.out.2.alloc (.cells #[.int .i64 0, .int .i64 0, .int .i64 0, .int .i64 0, .int .i64 0, .int .i64 0, .string (strB [])] TPart)
  replace H1 := Lib.hid (And.intro (H1.out.1.alloc (.cells #[.int .i64 0, .int .i64 0, .int .i64 0, .int .i64 0, .int .i64 0, .int .i64 0, .string (strB [])] TPart)) (hw.perm (show _ = pts B (.cells #[.int .i64 (tn : Int), .int .i64 nu, .int .i64 ge, .int .i64 gc] TTail (0, 0)) * (pts (B + 1) (.cells zTail TTail (0, 0)) * (pts w2.heap.size (.cells #[.int .i64 0, .int .i64 0, .int .i64 0, .int .i64 0, .int .i64 0, .int .i64 0, .string (strB [])] TPart (0, 0)) * (shelfAt SH p S * F))) from by ac_rfl)))
  clear t0 t1 t2 t3 lt lr
  clear hw
  generalize w2.alloc (.cells #[.int .i64 0, .int .i64 0, .int .i64 0, .int .i64 0, .int .i64 0, .int .i64 0, .string (strB [])] TPart) = w3 at H1 ⊢
  generalize w2.heap.size = C at H1 ⊢
  obtain ⟨t0, t1, t2, t3, lt, lr⟩ := nx_tail H1.out.2
  have hpp := And.intro H1.out.2 trivial
  obtain ⟨p0, p1, p2, p3, p4, p5, p6, lp⟩ := nx_part (a := .int .i64 0) (b := .int .i64 0) (c := .int .i64 0) (d := .int .i64 0) (e := .int .i64 0) (f := .int .i64 0) (g := .string (strB [])) H1.out.2
  clear hpp
  go_upto_if 57 with (fail)
  go_wp2_with (fail)
  clear t0 t1 t2 t3 lt lr
  clear p0 p1 p2 p3 p4 p5 p6 lp
  replace H1 := Lib.hid (And.intro H1.out.1.drew H1.out.2.drew)
  have hcells := Lib.hid (show ∀ (W : World) (X : HProp), Sat W (pts B (.cells #[.int .i64 (tn : Int), .int .i64 nu, .int .i64 ge, .int .i64 gc] TTail (0, 0)) * X) → W.cell? ⟨B, 0, none⟩ = some (.int .i64 (tn : Int)) ∧ W.cell? ⟨B, 1, none⟩ = some (.int .i64 nu) ∧ W.cell? ⟨B, 2, none⟩ = some (.int .i64 ge) ∧ W.cell? ⟨B, 3, none⟩ = some (.int .i64 gc) from fun W X h => by have h1 := cells_at h.block; exact ⟨h1 0, h1 1, h1 2, h1 3⟩)
  have hS0 := hcells.out _ _ H1.out.2
  refine reg_begin (fun w' => w'.cell? ⟨B, 0, none⟩ = some (.int .i64 (tn : Int)) ∧ w'.cell? ⟨B, 1, none⟩ = some (.int .i64 nu) ∧ w'.cell? ⟨B, 2, none⟩ = some (.int .i64 ge) ∧ w'.cell? ⟨B, 3, none⟩ = some (.int .i64 gc)) (by kernel_rfl) ?_
  (apply reg_take 0 rfl rfl (by decide +kernel) rfl); (rintro w' ⟨h1, h2, h3, h4⟩; go_simp; rfl); exact hS0; simp only [List.setIfInBounds_toArray, List.set_cons_succ, List.set_cons_zero]
  (apply reg_take 1 rfl rfl (by decide +kernel) rfl); (rintro w' ⟨h1, h2, h3, h4⟩; go_simp; rfl); exact hS0; simp only [List.setIfInBounds_toArray, List.set_cons_succ, List.set_cons_zero]
  (apply reg_take 2 rfl rfl (by decide +kernel) rfl); (rintro w' ⟨h1, h2, h3, h4⟩; go_simp; rfl); exact hS0; simp only [List.setIfInBounds_toArray, List.set_cons_succ, List.set_cons_zero]
  refine reg_store_blk 3 (T := TTail) (old := zTail) (new := #[.int .i64 (tn : Int), .int .i64 nu, .int .i64 ge, .int .i64 gc]) rfl rfl (by decide +kernel) rfl rfl rfl rfl (H1.out.2.perm (star_left_comm _ _ _)) (infoTail rfl) rfl (by simp [Value.oneCell']) ?_
  intro w9 h9
  replace H1 := Lib.hid (And.intro (H1.out.1.trans h9.out.1) h9.out.2)
  replace hS0 := hcells.out _ _ (h9.out.2.perm (star_left_comm _ _ _))
  refine ⟨hS0, ?_⟩
  clear h9
  (apply reg_take 4 rfl rfl (by decide +kernel) rfl); (rintro w' ⟨h1, h2, h3, h4⟩; go_simp; rfl); exact hS0; simp only [List.setIfInBounds_toArray, List.set_cons_succ, List.set_cons_zero]
  (apply reg_take 5 rfl rfl (by decide +kernel) rfl); (rintro w' ⟨h1, h2, h3, h4⟩; go_simp; rfl); exact hS0; simp only [List.setIfInBounds_toArray, List.set_cons_succ, List.set_cons_zero]
  refine reg_done (by decide +kernel) ?_
  clear hS0
  go_wp2
  refine bodyPost_ret (v := .tuple #[.string (strB []), .agg #[.int .i64 (tn : Int), .int .i64 nu, .int .i64 ge, .int .i64 gc], .bool false, .int .i64 0]) (results4 Try.results27 (.tmp rfl) (ResIs.row rfl H1.out.2.block Try.underlying31 rfl (infoTail rfl)) (.tmp rfl) (.tmp rfl)) rfl ?_
  exact ⟨rfl, H1.out.1, H1.out.2.right.right.right⟩
set_option maxHeartbeats 2000000 in
set_option maxRecDepth 20000 in
theorem wnext_fail (p : Nat) (S : ShelfM) (F : HProp) (d : Int) (N : Nat) (f : Nat → List UInt8) (hN : (N : Int) = logN S.cfg) (hd : 0 ≤ d ∧ d < 64) (hr : ReadsL S d N f) (hl : ∀ j, j < N → (f j).length = 64) (tn : Nat) (nu ge gc : Int) (htn : tn ≤ 2147483647) (hnu : 0 ≤ nu ∧ nu ≤ 4294967295) (xg xh xe xf xn xl : Int) (xb : List UInt8) (h0 : readL f N d tn = some ⟨⟨xg, xh⟩, ⟨xe, xf⟩, xn, xl, xb⟩) (hf : (newerM ⟨xg, xh⟩ ⟨ge, gc⟩ && (xn == nu + 1) && (xe == ge) && (xf == gc) && decide (xl ≤ 4096)) = false) (w : World) (hS : Sat w (shelfAt SH p S * F)) :
    Calls Try.prog 27 #[.pointer (some ⟨p, 0, none⟩), .int .i64 d, .agg (tailA ⟨(tn : Int), nu, ⟨ge, gc⟩⟩)] w fun e w' => e = .returned (.tuple #[.string (strB []), .agg (tailA ⟨(tn : Int), nu, ⟨ge, gc⟩⟩), .bool false, .int .i64 0]) ∧ Hid (Same w w' ∧ Sat w' (shelfAt SH p S * F)) := by
  have HR := Lib.hid (show ∀ W X Y, Sat W (X * (Y * (shelfAt SH p S * F))) → Calls Try.prog 49 #[.pointer (some ⟨p, 0, none⟩), .int .i64 d, .int .i64 (tn : Int)] W fun e w' => e = .returned (.tuple #[.agg #[.int .i64 xg, .int .i64 xh, .int .i64 xe, .int .i64 xf, .int .i64 xn, .int .i64 xl, .string (strB xb)], .bool true, .int .i64 0]) ∧ Hid (Same W w' ∧ Sat w' (X * (Y * (shelfAt SH p S * F)))) from fun W X Y h => by
    have hx0 := wread_any p S (X * (Y * F)) d tn N f hN hd hr hl W (h.perm (by ac_rfl))
    rw [h0] at hx0
    exact hx0.mono fun e w' h' => ⟨h'.1, h'.2.out.1, h'.2.out.2.perm (by ac_rfl)⟩)
  have HNW := Lib.hid (fun (a b : GenM) (W : World) => newer_any a b W)
  have H1 := Lib.hid (And.intro (((Same.refl w).alloc (.cells #[.int .i64 (tn : Int), .int .i64 nu, .int .i64 ge, .int .i64 gc] TTail)).alloc (.cells zTail TTail)) (((hS.alloc (.cells #[.int .i64 (tn : Int), .int .i64 nu, .int .i64 ge, .int .i64 gc] TTail)).alloc (.cells zTail TTail)).perm (show _ = pts w.heap.size (.cells #[.int .i64 (tn : Int), .int .i64 nu, .int .i64 ge, .int .i64 gc] TTail (0, 0)) * (pts (w.alloc (.cells #[.int .i64 (tn : Int), .int .i64 nu, .int .i64 ge, .int .i64 gc] TTail)).heap.size (.cells zTail TTail (0, 0)) * (shelfAt SH p S * F)) from by ac_rfl)))
  rw [World.size_alloc] at H1
  have HF := Lib.hid hf
  clear hN hd hr hl h0 hS hf
  go_enter Try.func27, Try.ntmps27
  go_upto_region 1 with ((with_reducible (refine wpList_alloc_zero ?_ TTail ?_ _ (zeroTail _) ?_)); rfl; rfl)
  generalize (w.alloc (.cells #[.int .i64 (tn : Int), .int .i64 nu, .int .i64 ge, .int .i64 gc] TTail)).alloc (.cells zTail TTail) = w1 at H1 ⊢
  generalize w.heap.size = B at H1 ⊢
  obtain ⟨t0, t1, t2, t3, lt, lr⟩ := nx_tail H1.out.2
  go_upto_region 2 with (go_at_call 49; refine (HR.out _ _ _ H1.out.2).mono ?_; rintro e w2 ⟨rfl, h2⟩; replace H1 := Lib.hid (And.intro (H1.out.1.trans h2.out.1) h2.out.2); clear t0 t1 t2 t3 lt lr; clear h2; obtain ⟨t0, t1, t2, t3, lt, lr⟩ := nx_tail H1.out.2)
  have hw := H1.out.2.alloc (.cells #[.int .i64 xg, .int .i64 xh, .int .i64 xe, .int .i64 xf, .int .i64 xn, .int .i64 xl, .string (strB xb)] TPart)
  replace H1 := Lib.hid (And.intro (H1.out.1.alloc (.cells #[.int .i64 xg, .int .i64 xh, .int .i64 xe, .int .i64 xf, .int .i64 xn, .int .i64 xl, .string (strB xb)] TPart)) (hw.perm (show _ = pts B (.cells #[.int .i64 (tn : Int), .int .i64 nu, .int .i64 ge, .int .i64 gc] TTail (0, 0)) * (pts (B + 1) (.cells zTail TTail (0, 0)) * (pts w2.heap.size (.cells #[.int .i64 xg, .int .i64 xh, .int .i64 xe, .int .i64 xf, .int .i64 xn, .int .i64 xl, .string (strB xb)] TPart (0, 0)) * (shelfAt SH p S * F))) from by ac_rfl)))
  clear t0 t1 t2 t3 lt lr
  clear hw
  generalize w2.alloc (.cells #[.int .i64 xg, .int .i64 xh, .int .i64 xe, .int .i64 xf, .int .i64 xn, .int .i64 xl, .string (strB xb)] TPart) = w3 at H1 ⊢
  generalize w2.heap.size = C at H1 ⊢
  obtain ⟨t0, t1, t2, t3, lt, lr⟩ := nx_tail H1.out.2
  obtain ⟨p0, p1, p2, p3, p4, p5, p6, lp⟩ := nx_part H1.out.2
  cases hnw : newerM ⟨xg, xh⟩ ⟨ge, gc⟩
  · clear HF
    go_upto_if 57 with (go_at_call 29; refine (HNW.out ⟨xg, xh⟩ ⟨ge, gc⟩ _).mono ?_; rintro e w4 ⟨rfl, hb⟩; replace H1 := Lib.hid (And.intro (H1.out.1.below hb) (H1.out.2.below hb)); clear t0 t1 t2 t3 lt lr; clear p0 p1 p2 p3 p4 p5 p6 lp; clear hb; rw [hnw]; obtain ⟨t0, t1, t2, t3, lt, lr⟩ := nx_tail H1.out.2; obtain ⟨p0, p1, p2, p3, p4, p5, p6, lp⟩ := nx_part H1.out.2)
    go_wp2_with (fail)
    clear t0 t1 t2 t3 lt lr
    clear p0 p1 p2 p3 p4 p5 p6 lp
    replace H1 := Lib.hid (And.intro H1.out.1.drew H1.out.2.drew)
    have hcells := Lib.hid (show ∀ (W : World) (X : HProp), Sat W (pts B (.cells #[.int .i64 (tn : Int), .int .i64 nu, .int .i64 ge, .int .i64 gc] TTail (0, 0)) * X) → W.cell? ⟨B, 0, none⟩ = some (.int .i64 (tn : Int)) ∧ W.cell? ⟨B, 1, none⟩ = some (.int .i64 nu) ∧ W.cell? ⟨B, 2, none⟩ = some (.int .i64 ge) ∧ W.cell? ⟨B, 3, none⟩ = some (.int .i64 gc) from fun W X h => by have h1 := cells_at h.block; exact ⟨h1 0, h1 1, h1 2, h1 3⟩)
    have hS0 := hcells.out _ _ H1.out.2
    refine reg_begin (fun w' => w'.cell? ⟨B, 0, none⟩ = some (.int .i64 (tn : Int)) ∧ w'.cell? ⟨B, 1, none⟩ = some (.int .i64 nu) ∧ w'.cell? ⟨B, 2, none⟩ = some (.int .i64 ge) ∧ w'.cell? ⟨B, 3, none⟩ = some (.int .i64 gc)) (by kernel_rfl) ?_
    (apply reg_take 0 rfl rfl (by decide +kernel) rfl); (rintro w' ⟨h1, h2, h3, h4⟩; go_simp; rfl); exact hS0; simp only [List.setIfInBounds_toArray, List.set_cons_succ, List.set_cons_zero]
    (apply reg_take 1 rfl rfl (by decide +kernel) rfl); (rintro w' ⟨h1, h2, h3, h4⟩; go_simp; rfl); exact hS0; simp only [List.setIfInBounds_toArray, List.set_cons_succ, List.set_cons_zero]
    (apply reg_take 2 rfl rfl (by decide +kernel) rfl); (rintro w' ⟨h1, h2, h3, h4⟩; go_simp; rfl); exact hS0; simp only [List.setIfInBounds_toArray, List.set_cons_succ, List.set_cons_zero]
    refine reg_store_blk 3 (T := TTail) (old := zTail) (new := #[.int .i64 (tn : Int), .int .i64 nu, .int .i64 ge, .int .i64 gc]) rfl rfl (by decide +kernel) rfl rfl rfl rfl (H1.out.2.perm (star_left_comm _ _ _)) (infoTail rfl) rfl (by simp [Value.oneCell']) ?_
    intro w9 h9
    replace H1 := Lib.hid (And.intro (H1.out.1.trans h9.out.1) h9.out.2)
    replace hS0 := hcells.out _ _ (h9.out.2.perm (star_left_comm _ _ _))
    refine ⟨hS0, ?_⟩
    clear h9
    (apply reg_take 4 rfl rfl (by decide +kernel) rfl); (rintro w' ⟨h1, h2, h3, h4⟩; go_simp; rfl); exact hS0; simp only [List.setIfInBounds_toArray, List.set_cons_succ, List.set_cons_zero]
    (apply reg_take 5 rfl rfl (by decide +kernel) rfl); (rintro w' ⟨h1, h2, h3, h4⟩; go_simp; rfl); exact hS0; simp only [List.setIfInBounds_toArray, List.set_cons_succ, List.set_cons_zero]
    refine reg_done (by decide +kernel) ?_
    clear hS0
    go_wp2
    refine bodyPost_ret (v := .tuple #[.string (strB []), .agg #[.int .i64 (tn : Int), .int .i64 nu, .int .i64 ge, .int .i64 gc], .bool false, .int .i64 0]) (results4 Try.results27 (.tmp rfl) (ResIs.row rfl H1.out.2.block Try.underlying31 rfl (infoTail rfl)) (.tmp rfl) (.tmp rfl)) rfl ?_
    exact ⟨rfl, H1.out.1, H1.out.2.right.right.right⟩
  cases c2 : (xn == nu + 1)
  · have c2' : (xn != nu + 1) = true := by simp only [bne, c2, Bool.not_false]
    clear HF
    go_upto_if 57 with (go_at_call 29; refine (HNW.out ⟨xg, xh⟩ ⟨ge, gc⟩ _).mono ?_; rintro e w4 ⟨rfl, hb⟩; replace H1 := Lib.hid (And.intro (H1.out.1.below hb) (H1.out.2.below hb)); clear t0 t1 t2 t3 lt lr; clear p0 p1 p2 p3 p4 p5 p6 lp; clear hb; rw [hnw]; obtain ⟨t0, t1, t2, t3, lt, lr⟩ := nx_tail H1.out.2; obtain ⟨p0, p1, p2, p3, p4, p5, p6, lp⟩ := nx_part H1.out.2)
    go_wp2_with (fail)
    clear t0 t1 t2 t3 lt lr
    clear p0 p1 p2 p3 p4 p5 p6 lp
    replace H1 := Lib.hid (And.intro H1.out.1.drew H1.out.2.drew)
    have hcells := Lib.hid (show ∀ (W : World) (X : HProp), Sat W (pts B (.cells #[.int .i64 (tn : Int), .int .i64 nu, .int .i64 ge, .int .i64 gc] TTail (0, 0)) * X) → W.cell? ⟨B, 0, none⟩ = some (.int .i64 (tn : Int)) ∧ W.cell? ⟨B, 1, none⟩ = some (.int .i64 nu) ∧ W.cell? ⟨B, 2, none⟩ = some (.int .i64 ge) ∧ W.cell? ⟨B, 3, none⟩ = some (.int .i64 gc) from fun W X h => by have h1 := cells_at h.block; exact ⟨h1 0, h1 1, h1 2, h1 3⟩)
    have hS0 := hcells.out _ _ H1.out.2
    refine reg_begin (fun w' => w'.cell? ⟨B, 0, none⟩ = some (.int .i64 (tn : Int)) ∧ w'.cell? ⟨B, 1, none⟩ = some (.int .i64 nu) ∧ w'.cell? ⟨B, 2, none⟩ = some (.int .i64 ge) ∧ w'.cell? ⟨B, 3, none⟩ = some (.int .i64 gc)) (by kernel_rfl) ?_
    (apply reg_take 0 rfl rfl (by decide +kernel) rfl); (rintro w' ⟨h1, h2, h3, h4⟩; go_simp; rfl); exact hS0; simp only [List.setIfInBounds_toArray, List.set_cons_succ, List.set_cons_zero]
    (apply reg_take 1 rfl rfl (by decide +kernel) rfl); (rintro w' ⟨h1, h2, h3, h4⟩; go_simp; rfl); exact hS0; simp only [List.setIfInBounds_toArray, List.set_cons_succ, List.set_cons_zero]
    (apply reg_take 2 rfl rfl (by decide +kernel) rfl); (rintro w' ⟨h1, h2, h3, h4⟩; go_simp; rfl); exact hS0; simp only [List.setIfInBounds_toArray, List.set_cons_succ, List.set_cons_zero]
    refine reg_store_blk 3 (T := TTail) (old := zTail) (new := #[.int .i64 (tn : Int), .int .i64 nu, .int .i64 ge, .int .i64 gc]) rfl rfl (by decide +kernel) rfl rfl rfl rfl (H1.out.2.perm (star_left_comm _ _ _)) (infoTail rfl) rfl (by simp [Value.oneCell']) ?_
    intro w9 h9
    replace H1 := Lib.hid (And.intro (H1.out.1.trans h9.out.1) h9.out.2)
    replace hS0 := hcells.out _ _ (h9.out.2.perm (star_left_comm _ _ _))
    refine ⟨hS0, ?_⟩
    clear h9
    (apply reg_take 4 rfl rfl (by decide +kernel) rfl); (rintro w' ⟨h1, h2, h3, h4⟩; go_simp; rfl); exact hS0; simp only [List.setIfInBounds_toArray, List.set_cons_succ, List.set_cons_zero]
    (apply reg_take 5 rfl rfl (by decide +kernel) rfl); (rintro w' ⟨h1, h2, h3, h4⟩; go_simp; rfl); exact hS0; simp only [List.setIfInBounds_toArray, List.set_cons_succ, List.set_cons_zero]
    refine reg_done (by decide +kernel) ?_
    clear hS0
    go_wp2
    refine bodyPost_ret (v := .tuple #[.string (strB []), .agg #[.int .i64 (tn : Int), .int .i64 nu, .int .i64 ge, .int .i64 gc], .bool false, .int .i64 0]) (results4 Try.results27 (.tmp rfl) (ResIs.row rfl H1.out.2.block Try.underlying31 rfl (infoTail rfl)) (.tmp rfl) (.tmp rfl)) rfl ?_
    exact ⟨rfl, H1.out.1, H1.out.2.right.right.right⟩
  have c2' : (xn != nu + 1) = false := by simp only [bne, c2, Bool.not_true]
  cases c3 : (xe == ge)
  · clear HF
    go_upto_if 57 with (go_at_call 29; refine (HNW.out ⟨xg, xh⟩ ⟨ge, gc⟩ _).mono ?_; rintro e w4 ⟨rfl, hb⟩; replace H1 := Lib.hid (And.intro (H1.out.1.below hb) (H1.out.2.below hb)); clear t0 t1 t2 t3 lt lr; clear p0 p1 p2 p3 p4 p5 p6 lp; clear hb; rw [hnw]; obtain ⟨t0, t1, t2, t3, lt, lr⟩ := nx_tail H1.out.2; obtain ⟨p0, p1, p2, p3, p4, p5, p6, lp⟩ := nx_part H1.out.2)
    go_wp2_with (fail)
    clear t0 t1 t2 t3 lt lr
    clear p0 p1 p2 p3 p4 p5 p6 lp
    replace H1 := Lib.hid (And.intro H1.out.1.drew H1.out.2.drew)
    have hcells := Lib.hid (show ∀ (W : World) (X : HProp), Sat W (pts B (.cells #[.int .i64 (tn : Int), .int .i64 nu, .int .i64 ge, .int .i64 gc] TTail (0, 0)) * X) → W.cell? ⟨B, 0, none⟩ = some (.int .i64 (tn : Int)) ∧ W.cell? ⟨B, 1, none⟩ = some (.int .i64 nu) ∧ W.cell? ⟨B, 2, none⟩ = some (.int .i64 ge) ∧ W.cell? ⟨B, 3, none⟩ = some (.int .i64 gc) from fun W X h => by have h1 := cells_at h.block; exact ⟨h1 0, h1 1, h1 2, h1 3⟩)
    have hS0 := hcells.out _ _ H1.out.2
    refine reg_begin (fun w' => w'.cell? ⟨B, 0, none⟩ = some (.int .i64 (tn : Int)) ∧ w'.cell? ⟨B, 1, none⟩ = some (.int .i64 nu) ∧ w'.cell? ⟨B, 2, none⟩ = some (.int .i64 ge) ∧ w'.cell? ⟨B, 3, none⟩ = some (.int .i64 gc)) (by kernel_rfl) ?_
    (apply reg_take 0 rfl rfl (by decide +kernel) rfl); (rintro w' ⟨h1, h2, h3, h4⟩; go_simp; rfl); exact hS0; simp only [List.setIfInBounds_toArray, List.set_cons_succ, List.set_cons_zero]
    (apply reg_take 1 rfl rfl (by decide +kernel) rfl); (rintro w' ⟨h1, h2, h3, h4⟩; go_simp; rfl); exact hS0; simp only [List.setIfInBounds_toArray, List.set_cons_succ, List.set_cons_zero]
    (apply reg_take 2 rfl rfl (by decide +kernel) rfl); (rintro w' ⟨h1, h2, h3, h4⟩; go_simp; rfl); exact hS0; simp only [List.setIfInBounds_toArray, List.set_cons_succ, List.set_cons_zero]
    refine reg_store_blk 3 (T := TTail) (old := zTail) (new := #[.int .i64 (tn : Int), .int .i64 nu, .int .i64 ge, .int .i64 gc]) rfl rfl (by decide +kernel) rfl rfl rfl rfl (H1.out.2.perm (star_left_comm _ _ _)) (infoTail rfl) rfl (by simp [Value.oneCell']) ?_
    intro w9 h9
    replace H1 := Lib.hid (And.intro (H1.out.1.trans h9.out.1) h9.out.2)
    replace hS0 := hcells.out _ _ (h9.out.2.perm (star_left_comm _ _ _))
    refine ⟨hS0, ?_⟩
    clear h9
    (apply reg_take 4 rfl rfl (by decide +kernel) rfl); (rintro w' ⟨h1, h2, h3, h4⟩; go_simp; rfl); exact hS0; simp only [List.setIfInBounds_toArray, List.set_cons_succ, List.set_cons_zero]
    (apply reg_take 5 rfl rfl (by decide +kernel) rfl); (rintro w' ⟨h1, h2, h3, h4⟩; go_simp; rfl); exact hS0; simp only [List.setIfInBounds_toArray, List.set_cons_succ, List.set_cons_zero]
    refine reg_done (by decide +kernel) ?_
    clear hS0
    go_wp2
    refine bodyPost_ret (v := .tuple #[.string (strB []), .agg #[.int .i64 (tn : Int), .int .i64 nu, .int .i64 ge, .int .i64 gc], .bool false, .int .i64 0]) (results4 Try.results27 (.tmp rfl) (ResIs.row rfl H1.out.2.block Try.underlying31 rfl (infoTail rfl)) (.tmp rfl) (.tmp rfl)) rfl ?_
    exact ⟨rfl, H1.out.1, H1.out.2.right.right.right⟩
  cases c4 : (xf == gc)
  · clear HF
    go_upto_if 57 with (go_at_call 29; refine (HNW.out ⟨xg, xh⟩ ⟨ge, gc⟩ _).mono ?_; rintro e w4 ⟨rfl, hb⟩; replace H1 := Lib.hid (And.intro (H1.out.1.below hb) (H1.out.2.below hb)); clear t0 t1 t2 t3 lt lr; clear p0 p1 p2 p3 p4 p5 p6 lp; clear hb; rw [hnw]; obtain ⟨t0, t1, t2, t3, lt, lr⟩ := nx_tail H1.out.2; obtain ⟨p0, p1, p2, p3, p4, p5, p6, lp⟩ := nx_part H1.out.2)
    go_wp2_with (fail)
    clear t0 t1 t2 t3 lt lr
    clear p0 p1 p2 p3 p4 p5 p6 lp
    replace H1 := Lib.hid (And.intro H1.out.1.drew H1.out.2.drew)
    have hcells := Lib.hid (show ∀ (W : World) (X : HProp), Sat W (pts B (.cells #[.int .i64 (tn : Int), .int .i64 nu, .int .i64 ge, .int .i64 gc] TTail (0, 0)) * X) → W.cell? ⟨B, 0, none⟩ = some (.int .i64 (tn : Int)) ∧ W.cell? ⟨B, 1, none⟩ = some (.int .i64 nu) ∧ W.cell? ⟨B, 2, none⟩ = some (.int .i64 ge) ∧ W.cell? ⟨B, 3, none⟩ = some (.int .i64 gc) from fun W X h => by have h1 := cells_at h.block; exact ⟨h1 0, h1 1, h1 2, h1 3⟩)
    have hS0 := hcells.out _ _ H1.out.2
    refine reg_begin (fun w' => w'.cell? ⟨B, 0, none⟩ = some (.int .i64 (tn : Int)) ∧ w'.cell? ⟨B, 1, none⟩ = some (.int .i64 nu) ∧ w'.cell? ⟨B, 2, none⟩ = some (.int .i64 ge) ∧ w'.cell? ⟨B, 3, none⟩ = some (.int .i64 gc)) (by kernel_rfl) ?_
    (apply reg_take 0 rfl rfl (by decide +kernel) rfl); (rintro w' ⟨h1, h2, h3, h4⟩; go_simp; rfl); exact hS0; simp only [List.setIfInBounds_toArray, List.set_cons_succ, List.set_cons_zero]
    (apply reg_take 1 rfl rfl (by decide +kernel) rfl); (rintro w' ⟨h1, h2, h3, h4⟩; go_simp; rfl); exact hS0; simp only [List.setIfInBounds_toArray, List.set_cons_succ, List.set_cons_zero]
    (apply reg_take 2 rfl rfl (by decide +kernel) rfl); (rintro w' ⟨h1, h2, h3, h4⟩; go_simp; rfl); exact hS0; simp only [List.setIfInBounds_toArray, List.set_cons_succ, List.set_cons_zero]
    refine reg_store_blk 3 (T := TTail) (old := zTail) (new := #[.int .i64 (tn : Int), .int .i64 nu, .int .i64 ge, .int .i64 gc]) rfl rfl (by decide +kernel) rfl rfl rfl rfl (H1.out.2.perm (star_left_comm _ _ _)) (infoTail rfl) rfl (by simp [Value.oneCell']) ?_
    intro w9 h9
    replace H1 := Lib.hid (And.intro (H1.out.1.trans h9.out.1) h9.out.2)
    replace hS0 := hcells.out _ _ (h9.out.2.perm (star_left_comm _ _ _))
    refine ⟨hS0, ?_⟩
    clear h9
    (apply reg_take 4 rfl rfl (by decide +kernel) rfl); (rintro w' ⟨h1, h2, h3, h4⟩; go_simp; rfl); exact hS0; simp only [List.setIfInBounds_toArray, List.set_cons_succ, List.set_cons_zero]
    (apply reg_take 5 rfl rfl (by decide +kernel) rfl); (rintro w' ⟨h1, h2, h3, h4⟩; go_simp; rfl); exact hS0; simp only [List.setIfInBounds_toArray, List.set_cons_succ, List.set_cons_zero]
    refine reg_done (by decide +kernel) ?_
    clear hS0
    go_wp2
    refine bodyPost_ret (v := .tuple #[.string (strB []), .agg #[.int .i64 (tn : Int), .int .i64 nu, .int .i64 ge, .int .i64 gc], .bool false, .int .i64 0]) (results4 Try.results27 (.tmp rfl) (ResIs.row rfl H1.out.2.block Try.underlying31 rfl (infoTail rfl)) (.tmp rfl) (.tmp rfl)) rfl ?_
    exact ⟨rfl, H1.out.1, H1.out.2.right.right.right⟩
  have c5 : decide (4096 < xl) = true := by have e := HF.out; rw [hnw, c2, c3, c4] at e; simp at e; simpa using e
  · clear HF
    go_upto_if 57 with (go_at_call 29; refine (HNW.out ⟨xg, xh⟩ ⟨ge, gc⟩ _).mono ?_; rintro e w4 ⟨rfl, hb⟩; replace H1 := Lib.hid (And.intro (H1.out.1.below hb) (H1.out.2.below hb)); clear t0 t1 t2 t3 lt lr; clear p0 p1 p2 p3 p4 p5 p6 lp; clear hb; rw [hnw]; obtain ⟨t0, t1, t2, t3, lt, lr⟩ := nx_tail H1.out.2; obtain ⟨p0, p1, p2, p3, p4, p5, p6, lp⟩ := nx_part H1.out.2)
    go_wp2_with (fail)
    clear t0 t1 t2 t3 lt lr
    clear p0 p1 p2 p3 p4 p5 p6 lp
    replace H1 := Lib.hid (And.intro H1.out.1.drew H1.out.2.drew)
    have hcells := Lib.hid (show ∀ (W : World) (X : HProp), Sat W (pts B (.cells #[.int .i64 (tn : Int), .int .i64 nu, .int .i64 ge, .int .i64 gc] TTail (0, 0)) * X) → W.cell? ⟨B, 0, none⟩ = some (.int .i64 (tn : Int)) ∧ W.cell? ⟨B, 1, none⟩ = some (.int .i64 nu) ∧ W.cell? ⟨B, 2, none⟩ = some (.int .i64 ge) ∧ W.cell? ⟨B, 3, none⟩ = some (.int .i64 gc) from fun W X h => by have h1 := cells_at h.block; exact ⟨h1 0, h1 1, h1 2, h1 3⟩)
    have hS0 := hcells.out _ _ H1.out.2
    refine reg_begin (fun w' => w'.cell? ⟨B, 0, none⟩ = some (.int .i64 (tn : Int)) ∧ w'.cell? ⟨B, 1, none⟩ = some (.int .i64 nu) ∧ w'.cell? ⟨B, 2, none⟩ = some (.int .i64 ge) ∧ w'.cell? ⟨B, 3, none⟩ = some (.int .i64 gc)) (by kernel_rfl) ?_
    (apply reg_take 0 rfl rfl (by decide +kernel) rfl); (rintro w' ⟨h1, h2, h3, h4⟩; go_simp; rfl); exact hS0; simp only [List.setIfInBounds_toArray, List.set_cons_succ, List.set_cons_zero]
    (apply reg_take 1 rfl rfl (by decide +kernel) rfl); (rintro w' ⟨h1, h2, h3, h4⟩; go_simp; rfl); exact hS0; simp only [List.setIfInBounds_toArray, List.set_cons_succ, List.set_cons_zero]
    (apply reg_take 2 rfl rfl (by decide +kernel) rfl); (rintro w' ⟨h1, h2, h3, h4⟩; go_simp; rfl); exact hS0; simp only [List.setIfInBounds_toArray, List.set_cons_succ, List.set_cons_zero]
    refine reg_store_blk 3 (T := TTail) (old := zTail) (new := #[.int .i64 (tn : Int), .int .i64 nu, .int .i64 ge, .int .i64 gc]) rfl rfl (by decide +kernel) rfl rfl rfl rfl (H1.out.2.perm (star_left_comm _ _ _)) (infoTail rfl) rfl (by simp [Value.oneCell']) ?_
    intro w9 h9
    replace H1 := Lib.hid (And.intro (H1.out.1.trans h9.out.1) h9.out.2)
    replace hS0 := hcells.out _ _ (h9.out.2.perm (star_left_comm _ _ _))
    refine ⟨hS0, ?_⟩
    clear h9
    (apply reg_take 4 rfl rfl (by decide +kernel) rfl); (rintro w' ⟨h1, h2, h3, h4⟩; go_simp; rfl); exact hS0; simp only [List.setIfInBounds_toArray, List.set_cons_succ, List.set_cons_zero]
    (apply reg_take 5 rfl rfl (by decide +kernel) rfl); (rintro w' ⟨h1, h2, h3, h4⟩; go_simp; rfl); exact hS0; simp only [List.setIfInBounds_toArray, List.set_cons_succ, List.set_cons_zero]
    refine reg_done (by decide +kernel) ?_
    clear hS0
    go_wp2
    refine bodyPost_ret (v := .tuple #[.string (strB []), .agg #[.int .i64 (tn : Int), .int .i64 nu, .int .i64 ge, .int .i64 gc], .bool false, .int .i64 0]) (results4 Try.results27 (.tmp rfl) (ResIs.row rfl H1.out.2.block Try.underlying31 rfl (infoTail rfl)) (.tmp rfl) (.tmp rfl)) rfl ?_
    exact ⟨rfl, H1.out.1, H1.out.2.right.right.right⟩
end Go.Proofs.Ytbegomjbakidmaa

/- wal.next: the loop over the parts of a record. -/
namespace Go.Proofs.Ytbegomjbakidmaa
open Go.RowKit Go.Sl Go.ChangeMaps

theorem restL_succ {f : Nat → List UInt8} {N : Nat} {d : Int} {t i k : Nat} {x : PartM} : restL f N d t x i (k + 1) = match readL f N d (t + i) with
    | none => none
    | some p => if p.gen ≠ x.gen ∨ p.number ≠ x.number ∨ p.before ≠ x.before ∨ p.left ≠ x.left - 26 * (i : Int) then none else (restL f N d t x (i + 1) k).map (p.bytes ++ ·) := rfl
theorem nx_all {w : World} {E A R C : Nat} {a b c d : Int} {p0 p1 p2 p3 p4 p5 p6 q0 q1 q2 q3 q4 q5 q6 : Value} {X : HProp}
    (h : Sat w (pts E (.cells #[q0, q1, q2, q3, q4, q5, q6] TPart (0, 0)) * (pts A (.cells #[.int .i64 a, .int .i64 b, .int .i64 c, .int .i64 d] TTail (0, 0)) * (pts R (.cells zTail TTail (0, 0)) * (pts C (.cells #[p0, p1, p2, p3, p4, p5, p6] TPart (0, 0)) * X))))) :
    (w.cell? ⟨A, 0, none⟩ = some (.int .i64 a) ∧ w.cell? ⟨A, 1, none⟩ = some (.int .i64 b) ∧ w.cell? ⟨A, 2, none⟩ = some (.int .i64 c) ∧ w.cell? ⟨A, 3, none⟩ = some (.int .i64 d) ∧ A < w.heap.size ∧ R < w.heap.size) ∧
    (w.cell? ⟨C, 0, none⟩ = some p0 ∧ w.cell? ⟨C, 1, none⟩ = some p1 ∧ w.cell? ⟨C, 2, none⟩ = some p2 ∧ w.cell? ⟨C, 3, none⟩ = some p3 ∧ w.cell? ⟨C, 4, none⟩ = some p4 ∧ w.cell? ⟨C, 5, none⟩ = some p5 ∧ w.cell? ⟨C, 6, none⟩ = some p6 ∧ C < w.heap.size) ∧
    (w.cell? ⟨E, 0, none⟩ = some q0 ∧ w.cell? ⟨E, 1, none⟩ = some q1 ∧ w.cell? ⟨E, 2, none⟩ = some q2 ∧ w.cell? ⟨E, 3, none⟩ = some q3 ∧ w.cell? ⟨E, 4, none⟩ = some q4 ∧ w.cell? ⟨E, 5, none⟩ = some q5 ∧ w.cell? ⟨E, 6, none⟩ = some q6 ∧ E < w.heap.size) :=
  ⟨nx_tail h.right, nx_part h.right, nx_part (h.perm (show _ = emp * (emp * (pts E (.cells #[q0, q1, q2, q3, q4, q5, q6] TPart (0, 0)) * _)) from by rw [emp_star, emp_star]))⟩
def nxBlk (B C : Nat) (tn : Nat) (nu ge gc xg xh xe xf xn xl : Int) (xb : List UInt8) (X : HProp) : HProp :=
  pts B (.cells #[.int .i64 (tn : Int), .int .i64 nu, .int .i64 ge, .int .i64 gc] TTail (0, 0)) * (pts (B + 1) (.cells zTail TTail (0, 0)) * (pts C (.cells #[.int .i64 xg, .int .i64 xh, .int .i64 xe, .int .i64 xf, .int .i64 xn, .int .i64 xl, .string (strB xb)] TPart (0, 0)) * X))
structure NxSt (w : World) (E : HProp) (f : Nat → List UInt8) (N : Nat) (d : Int) (tn : Nat) (x : PartM) (n : Nat) (r i : Value) (wr : World) : Prop where
  st : ∃ (k : Nat) (pre : List UInt8), 1 ≤ k ∧ k ≤ n ∧ i = .int .i64 (k : Int) ∧ r = .string (strB (x.bytes ++ pre)) ∧ (x.bytes ++ pre).length ≤ 26 * k ∧ restL f N d tn x 1 (n - 1) = (restL f N d tn x k (n - k)).map (pre ++ ·) ∧ Same w wr ∧ Sat wr E
/-- What next answers. -/
def NextOut (p : Nat) (S : ShelfM) (F : HProp) (t : TailM) (r : Option (List UInt8 × TailM)) (w : World) (e : Ending) (w' : World) : Prop :=
  e = .returned (.tuple #[.string (strB (nextO r t).1), .agg (tailA (nextO r t).2), .bool r.isSome, .int .i64 0]) ∧ Hid (Same w w' ∧ Sat w' (shelfAt SH p S * F))
set_option maxHeartbeats 2000000 in
set_option maxRecDepth 20000 in
theorem wnext_loop (p : Nat) (S : ShelfM) (F : HProp) (d : Int) (N : Nat) (f : Nat → List UInt8) (hN : (N : Int) = logN S.cfg) (hd : 0 ≤ d ∧ d < 64) (hr : ReadsL S d N f) (hl : ∀ j, j < N → (f j).length = 64) (tn : Nat) (nu ge gc : Int) (htn : tn ≤ 2147483647) (hnu : 0 ≤ nu ∧ nu ≤ 4294967295) (xg xh xe xf xn xl : Int) (xb : List UInt8) (h0 : readL f N d tn = some ⟨⟨xg, xh⟩, ⟨xe, xf⟩, xn, xl, xb⟩) (hnw : newerM ⟨xg, xh⟩ ⟨ge, gc⟩ = true) (hxn : xn = nu + 1) (hxe : xe = ge) (hxf : xf = gc) (hxl : xl ≤ 4096) (w : World) (hS : Sat w (shelfAt SH p S * F)) :
    Calls Try.prog 27 #[.pointer (some ⟨p, 0, none⟩), .int .i64 d, .agg (tailA ⟨(tn : Int), nu, ⟨ge, gc⟩⟩)] w (NextOut p S F ⟨(tn : Int), nu, ⟨ge, gc⟩⟩ ((restL f N d tn ⟨⟨xg, xh⟩, ⟨xe, xf⟩, xn, xl, xb⟩ 1 ((sizeM xl).toNat - 1)).map fun r => (xb ++ r, ⟨(tn : Int) + sizeM xl, xn, ⟨xg, xh⟩⟩)) w) := by
  have hpl := readL_part h0
  have hxl0 := hpl.left
  have hxb := hpl.bytes
  simp only at hxl0 hxb
  obtain ⟨n, hn⟩ : ∃ n, (sizeM xl).toNat = n := ⟨_, rfl⟩
  have hsp := size_pos hxl0
  have hni : sizeM xl = (n : Int) := by omega
  have hn1 : 1 ≤ n := by omega
  have hnm : n ≤ 158 := by have : sizeM xl ≤ 158 := by unfold sizeM; rw [if_neg (by omega)]; omega
                           omega
  rw [hn, hni]
  have hsz := fun W => size_any xl hxl0 (by omega) W
  rw [hni] at hsz
  have HSZ := Lib.hid hsz
  have HRD := Lib.hid (show ∀ (k : Nat) W X Y Z, Sat W (X * (Y * (Z * (shelfAt SH p S * F)))) → Calls Try.prog 49 #[.pointer (some ⟨p, 0, none⟩), .int .i64 d, .int .i64 ((tn : Int) + (k : Int))] W fun e w' => e = .returned (.tuple #[.agg (partO (readL f N d (tn + k))), .bool (readL f N d (tn + k)).isSome, .int .i64 0]) ∧ Hid (Same W w' ∧ Sat w' (X * (Y * (Z * (shelfAt SH p S * F))))) from fun k W X Y Z h => by
    have hx0 := wread_any p S (X * (Y * (Z * F))) d (tn + k) N f hN hd hr hl W (h.perm (by ac_rfl))
    rw [Int.natCast_add] at hx0
    exact hx0.mono fun e w' h' => ⟨h'.1, h'.2.out.1, h'.2.out.2.perm (by ac_rfl)⟩)
  have HR := Lib.hid (show ∀ W X Y, Sat W (X * (Y * (shelfAt SH p S * F))) → Calls Try.prog 49 #[.pointer (some ⟨p, 0, none⟩), .int .i64 d, .int .i64 (tn : Int)] W fun e w' => e = .returned (.tuple #[.agg #[.int .i64 xg, .int .i64 xh, .int .i64 xe, .int .i64 xf, .int .i64 xn, .int .i64 xl, .string (strB xb)], .bool true, .int .i64 0]) ∧ Hid (Same W w' ∧ Sat w' (X * (Y * (shelfAt SH p S * F)))) from fun W X Y h => by
    have hx0 := wread_any p S (X * (Y * F)) d tn N f hN hd hr hl W (h.perm (by ac_rfl))
    rw [h0] at hx0
    exact hx0.mono fun e w' h' => ⟨h'.1, h'.2.out.1, h'.2.out.2.perm (by ac_rfl)⟩)
  have HNW := Lib.hid (fun (a b : GenM) (W : World) => newer_any a b W)
  have H1 := Lib.hid (And.intro (((Same.refl w).alloc (.cells #[.int .i64 (tn : Int), .int .i64 nu, .int .i64 ge, .int .i64 gc] TTail)).alloc (.cells zTail TTail)) (((hS.alloc (.cells #[.int .i64 (tn : Int), .int .i64 nu, .int .i64 ge, .int .i64 gc] TTail)).alloc (.cells zTail TTail)).perm (show _ = pts w.heap.size (.cells #[.int .i64 (tn : Int), .int .i64 nu, .int .i64 ge, .int .i64 gc] TTail (0, 0)) * (pts (w.alloc (.cells #[.int .i64 (tn : Int), .int .i64 nu, .int .i64 ge, .int .i64 gc] TTail)).heap.size (.cells zTail TTail (0, 0)) * (shelfAt SH p S * F)) from by ac_rfl)))
  rw [World.size_alloc] at H1
  have c2 : (xn == nu + 1) = true := by simp [hxn]
  have c2' : (xn != nu + 1) = false := by simp [bne, hxn]
  have c3 : (xe == ge) = true := by simp [hxe]
  have c4 : (xf == gc) = true := by simp [hxf]
  have c5 : decide (4096 < xl) = false := decide_eq_false (by omega)
  clear hN hd hr hl h0 hS hpl hsp hni hn hsz hxn hxe hxf
  go_enter Try.func27, Try.ntmps27
  go_upto_region 1 with ((with_reducible (refine wpList_alloc_zero ?_ TTail ?_ _ (zeroTail _) ?_)); rfl; rfl)
  generalize (w.alloc (.cells #[.int .i64 (tn : Int), .int .i64 nu, .int .i64 ge, .int .i64 gc] TTail)).alloc (.cells zTail TTail) = w1 at H1 ⊢
  generalize w.heap.size = B at H1 ⊢
  obtain ⟨t0, t1, t2, t3, lt, lr⟩ := nx_tail H1.out.2
  go_upto_region 2 with (go_at_call 49; refine (HR.out _ _ _ H1.out.2).mono ?_; rintro e w2 ⟨rfl, h2⟩; replace H1 := Lib.hid (And.intro (H1.out.1.trans h2.out.1) h2.out.2); clear t0 t1 t2 t3 lt lr; clear h2; obtain ⟨t0, t1, t2, t3, lt, lr⟩ := nx_tail H1.out.2)
  have hw := H1.out.2.alloc (.cells #[.int .i64 xg, .int .i64 xh, .int .i64 xe, .int .i64 xf, .int .i64 xn, .int .i64 xl, .string (strB xb)] TPart)
  replace H1 := Lib.hid (And.intro (H1.out.1.alloc (.cells #[.int .i64 xg, .int .i64 xh, .int .i64 xe, .int .i64 xf, .int .i64 xn, .int .i64 xl, .string (strB xb)] TPart)) (hw.perm (show _ = pts B (.cells #[.int .i64 (tn : Int), .int .i64 nu, .int .i64 ge, .int .i64 gc] TTail (0, 0)) * (pts (B + 1) (.cells zTail TTail (0, 0)) * (pts w2.heap.size (.cells #[.int .i64 xg, .int .i64 xh, .int .i64 xe, .int .i64 xf, .int .i64 xn, .int .i64 xl, .string (strB xb)] TPart (0, 0)) * (shelfAt SH p S * F))) from by ac_rfl)))
  clear t0 t1 t2 t3 lt lr
  clear hw
  generalize w2.alloc (.cells #[.int .i64 xg, .int .i64 xh, .int .i64 xe, .int .i64 xf, .int .i64 xn, .int .i64 xl, .string (strB xb)] TPart) = w3 at H1 ⊢
  generalize w2.heap.size = C at H1 ⊢
  obtain ⟨t0, t1, t2, t3, lt, lr⟩ := nx_tail H1.out.2
  obtain ⟨p0, p1, p2, p3, p4, p5, p6, lp⟩ := nx_part H1.out.2
  go_upto_if 57 with (go_at_call 29; refine (HNW.out ⟨xg, xh⟩ ⟨ge, gc⟩ _).mono ?_; rintro e w4 ⟨rfl, hb⟩; replace H1 := Lib.hid (And.intro (H1.out.1.below hb) (H1.out.2.below hb)); clear t0 t1 t2 t3 lt lr; clear p0 p1 p2 p3 p4 p5 p6 lp; clear hb; rw [hnw]; obtain ⟨t0, t1, t2, t3, lt, lr⟩ := nx_tail H1.out.2; obtain ⟨p0, p1, p2, p3, p4, p5, p6, lp⟩ := nx_part H1.out.2)
  go_wp2_with (fail)
  clear t0 t1 t2 t3 lt lr p0 p1 p2 p3 p4 p5 p6 lp c2 c2' c3 c4 c5
  replace H1 := Lib.hid (And.intro H1.out.1.drew H1.out.2.drew)
  obtain ⟨_, _, _, _, _, p5, p6, _⟩ := nx_part H1.out.2
  have hS0 := And.intro p5 p6
  refine reg_begin (fun w' => w'.cell? ⟨C, 5, none⟩ = some (.int .i64 xl) ∧ w'.cell? ⟨C, 6, none⟩ = some (.string (strB xb))) (by kernel_rfl) ?_
  (apply reg_take 0 rfl rfl (by decide +kernel) rfl); (rintro w' ⟨h1, h2⟩; go_simp; rfl); exact hS0; simp only [List.setIfInBounds_toArray, List.set_cons_succ, List.set_cons_zero]
  (apply reg_take 1 rfl rfl (by decide +kernel) rfl); (rintro w' ⟨h1, h2⟩; go_simp; rfl); exact hS0; simp only [List.setIfInBounds_toArray, List.set_cons_succ, List.set_cons_zero]
  (apply reg_take 2 rfl rfl (by decide +kernel) rfl); (rintro w' ⟨h1, h2⟩; go_simp; rfl); exact hS0; simp only [List.setIfInBounds_toArray, List.set_cons_succ, List.set_cons_zero]
  (apply reg_take 3 rfl rfl (by decide +kernel) rfl); (rintro w' ⟨h1, h2⟩; go_simp; rfl); exact hS0; simp only [List.setIfInBounds_toArray, List.set_cons_succ, List.set_cons_zero]
  refine reg_takeq 4 (f := 13) (args := #[.int .i64 xl]) (v := .int .i64 (n : Int)) rfl rfl (by decide +kernel) rfl (fun w' => by kernel_rfl) (fun w' _ => HSZ.out w') hS0 ?_
  simp only [List.setIfInBounds_toArray, List.set_cons_succ, List.set_cons_zero]
  (apply reg_take 5 rfl rfl (by decide +kernel) rfl); (rintro w' ⟨h1, h2⟩; go_simp; rfl); exact hS0; simp only [List.setIfInBounds_toArray, List.set_cons_succ, List.set_cons_zero]
  (apply reg_take 6 rfl rfl (by decide +kernel) rfl); (rintro w' ⟨h1, h2⟩; go_simp; rfl); exact hS0; simp only [List.setIfInBounds_toArray, List.set_cons_succ, List.set_cons_zero]
  refine reg_done (by decide +kernel) ?_
  clear hS0 p5 p6
  have hst : NxSt w (nxBlk B C tn nu ge gc xg xh xe xf xn xl xb (shelfAt SH p S * F)) f N d tn ⟨⟨xg, xh⟩, ⟨xe, xf⟩, xn, xl, xb⟩ n (.string (strB xb)) (.int .i64 1) w4.drew := ⟨⟨1, [], Nat.le_refl _, hn1, rfl, by rw [List.append_nil], by rw [List.append_nil]; simp only; omega, by simp, H1.out.1, H1.out.2⟩⟩
  have HST := Lib.hid hst
  clear hst H1
  generalize w4.drew = w5 at HST ⊢
  go_wp2_with (fail)
  go_loopw [13, 15] (fun r i wr => NxSt w (nxBlk B C tn nu ge gc xg xh xe xf xn xl xb (shelfAt SH p S * F)) f N d tn ⟨⟨xg, xh⟩, ⟨xe, xf⟩, xn, xl, xb⟩ n r i wr) (fun _ i _ => n - (intOf i).toNat)
  case atStart => exact HST.out
  case round =>
    obtain ⟨k, pre, hk1, hk2, rfl, rfl, hlen, hrest, hsm, hs⟩ := hrel.st
    simp only at hlen
    have H1 := Lib.hid (And.intro hsm hs)
    have HREST := Lib.hid hrest
    clear hrel HST hsm hs hrest
    unfold nxBlk at H1
    by_cases hlt : k < n
    · have hltd : decide ((k : Int) < (n : Int)) = true := decide_eq_true (by omega)
      obtain ⟨m, hm⟩ : ∃ m, n - k = m + 1 := ⟨n - k - 1, by omega⟩
      have hr1 := HREST.out
      rw [hm, restL_succ] at hr1
      have HR1 := Lib.hid hr1
      have HLEN := Lib.hid hlen
      have hrd := fun W X Y Z (h : Sat W (X * (Y * (Z * (shelfAt SH p S * F))))) => HRD.out k W X Y Z h
      obtain ⟨t0, t1, t2, t3, lt, lr⟩ := nx_tail H1.out.2
      obtain ⟨p0, p1, p2, p3, p4, p5, p6, lp⟩ := nx_part H1.out.2
      clear hr1 hlen
      cases hrd1 : readL f N d (tn + k) with
      | none =>
        have HB := Lib.hid (show restL f N d tn ⟨⟨xg, xh⟩, ⟨xe, xf⟩, xn, xl, xb⟩ 1 (n - 1) = none from by rw [HR1.out, hrd1]; rfl)
        have hrd' := hrd
        rw [hrd1] at hrd'
        replace hrd' := show ∀ W X Y Z, Sat W (X * (Y * (Z * (shelfAt SH p S * F)))) → Calls Try.prog 49 #[.pointer (some ⟨p, 0, none⟩), .int .i64 d, .int .i64 ((tn : Int) + (k : Int))] W fun e w' => e = .returned (.tuple #[.agg #[.int .i64 0, .int .i64 0, .int .i64 0, .int .i64 0, .int .i64 0, .int .i64 0, .string (strB [])], .bool false, .int .i64 0]) ∧ Hid (Same W w' ∧ Sat w' (X * (Y * (Z * (shelfAt SH p S * F))))) from hrd'
        clear hrd hrd1
        go_upto_region 9 with (go_at_call 49; refine (hrd' _ _ _ _ (H1.out.2)).mono ?_; rintro e w6 ⟨rfl, h6⟩; replace H1 := Lib.hid (And.intro (H1.out.1.trans h6.out.1) h6.out.2); clear t0 t1 t2 t3 lt lr p0 p1 p2 p3 p4 p5 p6 lp h6; obtain ⟨t0, t1, t2, t3, lt, lr⟩ := nx_tail H1.out.2; obtain ⟨p0, p1, p2, p3, p4, p5, p6, lp⟩ := nx_part H1.out.2)
        replace H1 := Lib.hid (And.intro (H1.out.1.alloc (.cells #[.int .i64 0, .int .i64 0, .int .i64 0, .int .i64 0, .int .i64 0, .int .i64 0, .string (strB [])] TPart)) (H1.out.2.alloc (.cells #[.int .i64 0, .int .i64 0, .int .i64 0, .int .i64 0, .int .i64 0, .int .i64 0, .string (strB [])] TPart)))
        clear t0 t1 t2 t3 lt lr p0 p1 p2 p3 p4 p5 p6 lp hrd'
        generalize w6.alloc (.cells #[.int .i64 0, .int .i64 0, .int .i64 0, .int .i64 0, .int .i64 0, .int .i64 0, .string (strB [])] TPart) = w7 at H1 ⊢
        generalize w6.heap.size = G at H1 ⊢
        obtain ⟨⟨t0, t1, t2, t3, lt, lr⟩, ⟨p0, p1, p2, p3, p4, p5, p6, lp⟩, q0, q1, q2, q3, q4, q5, q6, lq⟩ := nx_all H1.out.2
        go_upto_if 113 with (fail)
        clear q0 q1 q2 q3 q4 q5 q6 lq
        replace H1 := Lib.hid (And.intro H1.out.1 H1.out.2.right)
        go_wp2_with (fail)
        clear t0 t1 t2 t3 lt lr
        clear p0 p1 p2 p3 p4 p5 p6 lp
        replace H1 := Lib.hid (And.intro H1.out.1.drew H1.out.2.drew)
        have hcells := Lib.hid (show ∀ (W : World) (X : HProp), Sat W (pts B (.cells #[.int .i64 (tn : Int), .int .i64 nu, .int .i64 ge, .int .i64 gc] TTail (0, 0)) * X) → W.cell? ⟨B, 0, none⟩ = some (.int .i64 (tn : Int)) ∧ W.cell? ⟨B, 1, none⟩ = some (.int .i64 nu) ∧ W.cell? ⟨B, 2, none⟩ = some (.int .i64 ge) ∧ W.cell? ⟨B, 3, none⟩ = some (.int .i64 gc) from fun W X h => by have h1 := cells_at h.block; exact ⟨h1 0, h1 1, h1 2, h1 3⟩)
        have hS0 := hcells.out _ _ H1.out.2
        refine reg_begin (fun w' => w'.cell? ⟨B, 0, none⟩ = some (.int .i64 (tn : Int)) ∧ w'.cell? ⟨B, 1, none⟩ = some (.int .i64 nu) ∧ w'.cell? ⟨B, 2, none⟩ = some (.int .i64 ge) ∧ w'.cell? ⟨B, 3, none⟩ = some (.int .i64 gc)) (by kernel_rfl) ?_
        (apply reg_take 0 rfl rfl (by decide +kernel) rfl); (rintro w' ⟨h1, h2, h3, h4⟩; go_simp; rfl); exact hS0; simp only [List.setIfInBounds_toArray, List.set_cons_succ, List.set_cons_zero]
        (apply reg_take 1 rfl rfl (by decide +kernel) rfl); (rintro w' ⟨h1, h2, h3, h4⟩; go_simp; rfl); exact hS0; simp only [List.setIfInBounds_toArray, List.set_cons_succ, List.set_cons_zero]
        (apply reg_take 2 rfl rfl (by decide +kernel) rfl); (rintro w' ⟨h1, h2, h3, h4⟩; go_simp; rfl); exact hS0; simp only [List.setIfInBounds_toArray, List.set_cons_succ, List.set_cons_zero]
        refine reg_store_blk 3 (T := TTail) (old := zTail) (new := #[.int .i64 (tn : Int), .int .i64 nu, .int .i64 ge, .int .i64 gc]) rfl rfl (by decide +kernel) rfl rfl rfl rfl (H1.out.2.perm (star_left_comm _ _ _)) (infoTail rfl) rfl (by simp [Value.oneCell']) ?_
        intro w9 h9
        replace H1 := Lib.hid (And.intro (H1.out.1.trans h9.out.1) h9.out.2)
        replace hS0 := hcells.out _ _ (h9.out.2.perm (star_left_comm _ _ _))
        refine ⟨hS0, ?_⟩
        clear h9
        (apply reg_take 4 rfl rfl (by decide +kernel) rfl); (rintro w' ⟨h1, h2, h3, h4⟩; go_simp; rfl); exact hS0; simp only [List.setIfInBounds_toArray, List.set_cons_succ, List.set_cons_zero]
        (apply reg_take 5 rfl rfl (by decide +kernel) rfl); (rintro w' ⟨h1, h2, h3, h4⟩; go_simp; rfl); exact hS0; simp only [List.setIfInBounds_toArray, List.set_cons_succ, List.set_cons_zero]
        refine reg_done (by decide +kernel) ?_
        clear hS0
        go_wp2
        refine bodyPost_ret (v := .tuple #[.string (strB []), .agg #[.int .i64 (tn : Int), .int .i64 nu, .int .i64 ge, .int .i64 gc], .bool false, .int .i64 0]) (results4 Try.results27 (.tmp rfl) (ResIs.row rfl H1.out.2.block Try.underlying31 rfl (infoTail rfl)) (.tmp rfl) (.tmp rfl)) rfl ?_
        unfold NextOut
        rw [HB.out]
        exact ⟨rfl, H1.out.1, H1.out.2.right.right.right⟩
      | some y =>
        obtain ⟨⟨yg, yh⟩, ⟨ye, yf⟩, yn, yl, yb⟩ := y
        have hyb := (readL_part hrd1).bytes
        have hy0 := (readL_part hrd1).left
        simp only at hyb hy0
        have hrd' := hrd
        rw [hrd1] at hrd'
        replace hrd' := show ∀ W X Y Z, Sat W (X * (Y * (Z * (shelfAt SH p S * F)))) → Calls Try.prog 49 #[.pointer (some ⟨p, 0, none⟩), .int .i64 d, .int .i64 ((tn : Int) + (k : Int))] W fun e w' => e = .returned (.tuple #[.agg #[.int .i64 yg, .int .i64 yh, .int .i64 ye, .int .i64 yf, .int .i64 yn, .int .i64 yl, .string (strB yb)], .bool true, .int .i64 0]) ∧ Hid (Same W w' ∧ Sat w' (X * (Y * (Z * (shelfAt SH p S * F))))) from hrd'
        have hr2 := HR1.out
        rw [hrd1] at hr2
        simp only at hr2
        have HR2 := Lib.hid hr2
        clear hrd hrd1 HR1 hr2
        go_upto_region 9 with (go_at_call 49; refine (hrd' _ _ _ _ (H1.out.2)).mono ?_; rintro e w6 ⟨rfl, h6⟩; replace H1 := Lib.hid (And.intro (H1.out.1.trans h6.out.1) h6.out.2); clear t0 t1 t2 t3 lt lr p0 p1 p2 p3 p4 p5 p6 lp h6; obtain ⟨t0, t1, t2, t3, lt, lr⟩ := nx_tail H1.out.2; obtain ⟨p0, p1, p2, p3, p4, p5, p6, lp⟩ := nx_part H1.out.2)
        replace H1 := Lib.hid (And.intro (H1.out.1.alloc (.cells #[.int .i64 yg, .int .i64 yh, .int .i64 ye, .int .i64 yf, .int .i64 yn, .int .i64 yl, .string (strB yb)] TPart)) (H1.out.2.alloc (.cells #[.int .i64 yg, .int .i64 yh, .int .i64 ye, .int .i64 yf, .int .i64 yn, .int .i64 yl, .string (strB yb)] TPart)))
        clear t0 t1 t2 t3 lt lr p0 p1 p2 p3 p4 p5 p6 lp hrd'
        generalize w6.alloc (.cells #[.int .i64 yg, .int .i64 yh, .int .i64 ye, .int .i64 yf, .int .i64 yn, .int .i64 yl, .string (strB yb)] TPart) = w7 at H1 ⊢
        generalize w6.heap.size = G at H1 ⊢
        obtain ⟨⟨t0, t1, t2, t3, lt, lr⟩, ⟨p0, p1, p2, p3, p4, p5, p6, lp⟩, q0, q1, q2, q3, q4, q5, q6, lq⟩ := nx_all H1.out.2
        cases d1 : (yg == xg)
        · have HB := Lib.hid (show restL f N d tn ⟨⟨xg, xh⟩, ⟨xe, xf⟩, xn, xl, xb⟩ 1 (n - 1) = none from by rw [HR2.out, if_pos (Or.inl (fun e => by simp only [GenM.mk.injEq] at e; simp [e.1] at d1))]; rfl)
          go_upto_if 113 with (fail)
          clear q0 q1 q2 q3 q4 q5 q6 lq
          replace H1 := Lib.hid (And.intro H1.out.1 H1.out.2.right)
          go_wp2_with (fail)
          clear t0 t1 t2 t3 lt lr
          clear p0 p1 p2 p3 p4 p5 p6 lp
          replace H1 := Lib.hid (And.intro H1.out.1.drew H1.out.2.drew)
          have hcells := Lib.hid (show ∀ (W : World) (X : HProp), Sat W (pts B (.cells #[.int .i64 (tn : Int), .int .i64 nu, .int .i64 ge, .int .i64 gc] TTail (0, 0)) * X) → W.cell? ⟨B, 0, none⟩ = some (.int .i64 (tn : Int)) ∧ W.cell? ⟨B, 1, none⟩ = some (.int .i64 nu) ∧ W.cell? ⟨B, 2, none⟩ = some (.int .i64 ge) ∧ W.cell? ⟨B, 3, none⟩ = some (.int .i64 gc) from fun W X h => by have h1 := cells_at h.block; exact ⟨h1 0, h1 1, h1 2, h1 3⟩)
          have hS0 := hcells.out _ _ H1.out.2
          refine reg_begin (fun w' => w'.cell? ⟨B, 0, none⟩ = some (.int .i64 (tn : Int)) ∧ w'.cell? ⟨B, 1, none⟩ = some (.int .i64 nu) ∧ w'.cell? ⟨B, 2, none⟩ = some (.int .i64 ge) ∧ w'.cell? ⟨B, 3, none⟩ = some (.int .i64 gc)) (by kernel_rfl) ?_
          (apply reg_take 0 rfl rfl (by decide +kernel) rfl); (rintro w' ⟨h1, h2, h3, h4⟩; go_simp; rfl); exact hS0; simp only [List.setIfInBounds_toArray, List.set_cons_succ, List.set_cons_zero]
          (apply reg_take 1 rfl rfl (by decide +kernel) rfl); (rintro w' ⟨h1, h2, h3, h4⟩; go_simp; rfl); exact hS0; simp only [List.setIfInBounds_toArray, List.set_cons_succ, List.set_cons_zero]
          (apply reg_take 2 rfl rfl (by decide +kernel) rfl); (rintro w' ⟨h1, h2, h3, h4⟩; go_simp; rfl); exact hS0; simp only [List.setIfInBounds_toArray, List.set_cons_succ, List.set_cons_zero]
          refine reg_store_blk 3 (T := TTail) (old := zTail) (new := #[.int .i64 (tn : Int), .int .i64 nu, .int .i64 ge, .int .i64 gc]) rfl rfl (by decide +kernel) rfl rfl rfl rfl (H1.out.2.perm (star_left_comm _ _ _)) (infoTail rfl) rfl (by simp [Value.oneCell']) ?_
          intro w9 h9
          replace H1 := Lib.hid (And.intro (H1.out.1.trans h9.out.1) h9.out.2)
          replace hS0 := hcells.out _ _ (h9.out.2.perm (star_left_comm _ _ _))
          refine ⟨hS0, ?_⟩
          clear h9
          (apply reg_take 4 rfl rfl (by decide +kernel) rfl); (rintro w' ⟨h1, h2, h3, h4⟩; go_simp; rfl); exact hS0; simp only [List.setIfInBounds_toArray, List.set_cons_succ, List.set_cons_zero]
          (apply reg_take 5 rfl rfl (by decide +kernel) rfl); (rintro w' ⟨h1, h2, h3, h4⟩; go_simp; rfl); exact hS0; simp only [List.setIfInBounds_toArray, List.set_cons_succ, List.set_cons_zero]
          refine reg_done (by decide +kernel) ?_
          clear hS0
          go_wp2
          refine bodyPost_ret (v := .tuple #[.string (strB []), .agg #[.int .i64 (tn : Int), .int .i64 nu, .int .i64 ge, .int .i64 gc], .bool false, .int .i64 0]) (results4 Try.results27 (.tmp rfl) (ResIs.row rfl H1.out.2.block Try.underlying31 rfl (infoTail rfl)) (.tmp rfl) (.tmp rfl)) rfl ?_
          unfold NextOut
          rw [HB.out]
          exact ⟨rfl, H1.out.1, H1.out.2.right.right.right⟩
        cases d2 : (yh == xh)
        · have HB := Lib.hid (show restL f N d tn ⟨⟨xg, xh⟩, ⟨xe, xf⟩, xn, xl, xb⟩ 1 (n - 1) = none from by rw [HR2.out, if_pos (Or.inl (fun e => by simp only [GenM.mk.injEq] at e; simp [e.2] at d2))]; rfl)
          go_upto_if 113 with (fail)
          clear q0 q1 q2 q3 q4 q5 q6 lq
          replace H1 := Lib.hid (And.intro H1.out.1 H1.out.2.right)
          go_wp2_with (fail)
          clear t0 t1 t2 t3 lt lr
          clear p0 p1 p2 p3 p4 p5 p6 lp
          replace H1 := Lib.hid (And.intro H1.out.1.drew H1.out.2.drew)
          have hcells := Lib.hid (show ∀ (W : World) (X : HProp), Sat W (pts B (.cells #[.int .i64 (tn : Int), .int .i64 nu, .int .i64 ge, .int .i64 gc] TTail (0, 0)) * X) → W.cell? ⟨B, 0, none⟩ = some (.int .i64 (tn : Int)) ∧ W.cell? ⟨B, 1, none⟩ = some (.int .i64 nu) ∧ W.cell? ⟨B, 2, none⟩ = some (.int .i64 ge) ∧ W.cell? ⟨B, 3, none⟩ = some (.int .i64 gc) from fun W X h => by have h1 := cells_at h.block; exact ⟨h1 0, h1 1, h1 2, h1 3⟩)
          have hS0 := hcells.out _ _ H1.out.2
          refine reg_begin (fun w' => w'.cell? ⟨B, 0, none⟩ = some (.int .i64 (tn : Int)) ∧ w'.cell? ⟨B, 1, none⟩ = some (.int .i64 nu) ∧ w'.cell? ⟨B, 2, none⟩ = some (.int .i64 ge) ∧ w'.cell? ⟨B, 3, none⟩ = some (.int .i64 gc)) (by kernel_rfl) ?_
          (apply reg_take 0 rfl rfl (by decide +kernel) rfl); (rintro w' ⟨h1, h2, h3, h4⟩; go_simp; rfl); exact hS0; simp only [List.setIfInBounds_toArray, List.set_cons_succ, List.set_cons_zero]
          (apply reg_take 1 rfl rfl (by decide +kernel) rfl); (rintro w' ⟨h1, h2, h3, h4⟩; go_simp; rfl); exact hS0; simp only [List.setIfInBounds_toArray, List.set_cons_succ, List.set_cons_zero]
          (apply reg_take 2 rfl rfl (by decide +kernel) rfl); (rintro w' ⟨h1, h2, h3, h4⟩; go_simp; rfl); exact hS0; simp only [List.setIfInBounds_toArray, List.set_cons_succ, List.set_cons_zero]
          refine reg_store_blk 3 (T := TTail) (old := zTail) (new := #[.int .i64 (tn : Int), .int .i64 nu, .int .i64 ge, .int .i64 gc]) rfl rfl (by decide +kernel) rfl rfl rfl rfl (H1.out.2.perm (star_left_comm _ _ _)) (infoTail rfl) rfl (by simp [Value.oneCell']) ?_
          intro w9 h9
          replace H1 := Lib.hid (And.intro (H1.out.1.trans h9.out.1) h9.out.2)
          replace hS0 := hcells.out _ _ (h9.out.2.perm (star_left_comm _ _ _))
          refine ⟨hS0, ?_⟩
          clear h9
          (apply reg_take 4 rfl rfl (by decide +kernel) rfl); (rintro w' ⟨h1, h2, h3, h4⟩; go_simp; rfl); exact hS0; simp only [List.setIfInBounds_toArray, List.set_cons_succ, List.set_cons_zero]
          (apply reg_take 5 rfl rfl (by decide +kernel) rfl); (rintro w' ⟨h1, h2, h3, h4⟩; go_simp; rfl); exact hS0; simp only [List.setIfInBounds_toArray, List.set_cons_succ, List.set_cons_zero]
          refine reg_done (by decide +kernel) ?_
          clear hS0
          go_wp2
          refine bodyPost_ret (v := .tuple #[.string (strB []), .agg #[.int .i64 (tn : Int), .int .i64 nu, .int .i64 ge, .int .i64 gc], .bool false, .int .i64 0]) (results4 Try.results27 (.tmp rfl) (ResIs.row rfl H1.out.2.block Try.underlying31 rfl (infoTail rfl)) (.tmp rfl) (.tmp rfl)) rfl ?_
          unfold NextOut
          rw [HB.out]
          exact ⟨rfl, H1.out.1, H1.out.2.right.right.right⟩
        cases d3 : (yn == xn)
        · have HB := Lib.hid (show restL f N d tn ⟨⟨xg, xh⟩, ⟨xe, xf⟩, xn, xl, xb⟩ 1 (n - 1) = none from by rw [HR2.out, if_pos (Or.inr (Or.inl (fun e => by rw [show yn = xn from e] at d3; simp at d3)))]; rfl)
          have d3n : (yn != xn) = true := by simp only [bne, d3, Bool.not_false]
          go_upto_if 113 with (fail)
          clear q0 q1 q2 q3 q4 q5 q6 lq
          replace H1 := Lib.hid (And.intro H1.out.1 H1.out.2.right)
          go_wp2_with (fail)
          clear t0 t1 t2 t3 lt lr
          clear p0 p1 p2 p3 p4 p5 p6 lp
          replace H1 := Lib.hid (And.intro H1.out.1.drew H1.out.2.drew)
          have hcells := Lib.hid (show ∀ (W : World) (X : HProp), Sat W (pts B (.cells #[.int .i64 (tn : Int), .int .i64 nu, .int .i64 ge, .int .i64 gc] TTail (0, 0)) * X) → W.cell? ⟨B, 0, none⟩ = some (.int .i64 (tn : Int)) ∧ W.cell? ⟨B, 1, none⟩ = some (.int .i64 nu) ∧ W.cell? ⟨B, 2, none⟩ = some (.int .i64 ge) ∧ W.cell? ⟨B, 3, none⟩ = some (.int .i64 gc) from fun W X h => by have h1 := cells_at h.block; exact ⟨h1 0, h1 1, h1 2, h1 3⟩)
          have hS0 := hcells.out _ _ H1.out.2
          refine reg_begin (fun w' => w'.cell? ⟨B, 0, none⟩ = some (.int .i64 (tn : Int)) ∧ w'.cell? ⟨B, 1, none⟩ = some (.int .i64 nu) ∧ w'.cell? ⟨B, 2, none⟩ = some (.int .i64 ge) ∧ w'.cell? ⟨B, 3, none⟩ = some (.int .i64 gc)) (by kernel_rfl) ?_
          (apply reg_take 0 rfl rfl (by decide +kernel) rfl); (rintro w' ⟨h1, h2, h3, h4⟩; go_simp; rfl); exact hS0; simp only [List.setIfInBounds_toArray, List.set_cons_succ, List.set_cons_zero]
          (apply reg_take 1 rfl rfl (by decide +kernel) rfl); (rintro w' ⟨h1, h2, h3, h4⟩; go_simp; rfl); exact hS0; simp only [List.setIfInBounds_toArray, List.set_cons_succ, List.set_cons_zero]
          (apply reg_take 2 rfl rfl (by decide +kernel) rfl); (rintro w' ⟨h1, h2, h3, h4⟩; go_simp; rfl); exact hS0; simp only [List.setIfInBounds_toArray, List.set_cons_succ, List.set_cons_zero]
          refine reg_store_blk 3 (T := TTail) (old := zTail) (new := #[.int .i64 (tn : Int), .int .i64 nu, .int .i64 ge, .int .i64 gc]) rfl rfl (by decide +kernel) rfl rfl rfl rfl (H1.out.2.perm (star_left_comm _ _ _)) (infoTail rfl) rfl (by simp [Value.oneCell']) ?_
          intro w9 h9
          replace H1 := Lib.hid (And.intro (H1.out.1.trans h9.out.1) h9.out.2)
          replace hS0 := hcells.out _ _ (h9.out.2.perm (star_left_comm _ _ _))
          refine ⟨hS0, ?_⟩
          clear h9
          (apply reg_take 4 rfl rfl (by decide +kernel) rfl); (rintro w' ⟨h1, h2, h3, h4⟩; go_simp; rfl); exact hS0; simp only [List.setIfInBounds_toArray, List.set_cons_succ, List.set_cons_zero]
          (apply reg_take 5 rfl rfl (by decide +kernel) rfl); (rintro w' ⟨h1, h2, h3, h4⟩; go_simp; rfl); exact hS0; simp only [List.setIfInBounds_toArray, List.set_cons_succ, List.set_cons_zero]
          refine reg_done (by decide +kernel) ?_
          clear hS0
          go_wp2
          refine bodyPost_ret (v := .tuple #[.string (strB []), .agg #[.int .i64 (tn : Int), .int .i64 nu, .int .i64 ge, .int .i64 gc], .bool false, .int .i64 0]) (results4 Try.results27 (.tmp rfl) (ResIs.row rfl H1.out.2.block Try.underlying31 rfl (infoTail rfl)) (.tmp rfl) (.tmp rfl)) rfl ?_
          unfold NextOut
          rw [HB.out]
          exact ⟨rfl, H1.out.1, H1.out.2.right.right.right⟩
        have d3n : (yn != xn) = false := by simp only [bne, d3, Bool.not_true]
        cases d4 : (ye == xe)
        · have HB := Lib.hid (show restL f N d tn ⟨⟨xg, xh⟩, ⟨xe, xf⟩, xn, xl, xb⟩ 1 (n - 1) = none from by rw [HR2.out, if_pos (Or.inr (Or.inr (Or.inl (fun e => by simp only [GenM.mk.injEq] at e; simp [e.1] at d4))))]; rfl)
          go_upto_if 113 with (fail)
          clear q0 q1 q2 q3 q4 q5 q6 lq
          replace H1 := Lib.hid (And.intro H1.out.1 H1.out.2.right)
          go_wp2_with (fail)
          clear t0 t1 t2 t3 lt lr
          clear p0 p1 p2 p3 p4 p5 p6 lp
          replace H1 := Lib.hid (And.intro H1.out.1.drew H1.out.2.drew)
          have hcells := Lib.hid (show ∀ (W : World) (X : HProp), Sat W (pts B (.cells #[.int .i64 (tn : Int), .int .i64 nu, .int .i64 ge, .int .i64 gc] TTail (0, 0)) * X) → W.cell? ⟨B, 0, none⟩ = some (.int .i64 (tn : Int)) ∧ W.cell? ⟨B, 1, none⟩ = some (.int .i64 nu) ∧ W.cell? ⟨B, 2, none⟩ = some (.int .i64 ge) ∧ W.cell? ⟨B, 3, none⟩ = some (.int .i64 gc) from fun W X h => by have h1 := cells_at h.block; exact ⟨h1 0, h1 1, h1 2, h1 3⟩)
          have hS0 := hcells.out _ _ H1.out.2
          refine reg_begin (fun w' => w'.cell? ⟨B, 0, none⟩ = some (.int .i64 (tn : Int)) ∧ w'.cell? ⟨B, 1, none⟩ = some (.int .i64 nu) ∧ w'.cell? ⟨B, 2, none⟩ = some (.int .i64 ge) ∧ w'.cell? ⟨B, 3, none⟩ = some (.int .i64 gc)) (by kernel_rfl) ?_
          (apply reg_take 0 rfl rfl (by decide +kernel) rfl); (rintro w' ⟨h1, h2, h3, h4⟩; go_simp; rfl); exact hS0; simp only [List.setIfInBounds_toArray, List.set_cons_succ, List.set_cons_zero]
          (apply reg_take 1 rfl rfl (by decide +kernel) rfl); (rintro w' ⟨h1, h2, h3, h4⟩; go_simp; rfl); exact hS0; simp only [List.setIfInBounds_toArray, List.set_cons_succ, List.set_cons_zero]
          (apply reg_take 2 rfl rfl (by decide +kernel) rfl); (rintro w' ⟨h1, h2, h3, h4⟩; go_simp; rfl); exact hS0; simp only [List.setIfInBounds_toArray, List.set_cons_succ, List.set_cons_zero]
          refine reg_store_blk 3 (T := TTail) (old := zTail) (new := #[.int .i64 (tn : Int), .int .i64 nu, .int .i64 ge, .int .i64 gc]) rfl rfl (by decide +kernel) rfl rfl rfl rfl (H1.out.2.perm (star_left_comm _ _ _)) (infoTail rfl) rfl (by simp [Value.oneCell']) ?_
          intro w9 h9
          replace H1 := Lib.hid (And.intro (H1.out.1.trans h9.out.1) h9.out.2)
          replace hS0 := hcells.out _ _ (h9.out.2.perm (star_left_comm _ _ _))
          refine ⟨hS0, ?_⟩
          clear h9
          (apply reg_take 4 rfl rfl (by decide +kernel) rfl); (rintro w' ⟨h1, h2, h3, h4⟩; go_simp; rfl); exact hS0; simp only [List.setIfInBounds_toArray, List.set_cons_succ, List.set_cons_zero]
          (apply reg_take 5 rfl rfl (by decide +kernel) rfl); (rintro w' ⟨h1, h2, h3, h4⟩; go_simp; rfl); exact hS0; simp only [List.setIfInBounds_toArray, List.set_cons_succ, List.set_cons_zero]
          refine reg_done (by decide +kernel) ?_
          clear hS0
          go_wp2
          refine bodyPost_ret (v := .tuple #[.string (strB []), .agg #[.int .i64 (tn : Int), .int .i64 nu, .int .i64 ge, .int .i64 gc], .bool false, .int .i64 0]) (results4 Try.results27 (.tmp rfl) (ResIs.row rfl H1.out.2.block Try.underlying31 rfl (infoTail rfl)) (.tmp rfl) (.tmp rfl)) rfl ?_
          unfold NextOut
          rw [HB.out]
          exact ⟨rfl, H1.out.1, H1.out.2.right.right.right⟩
        cases d5 : (yf == xf)
        · have HB := Lib.hid (show restL f N d tn ⟨⟨xg, xh⟩, ⟨xe, xf⟩, xn, xl, xb⟩ 1 (n - 1) = none from by rw [HR2.out, if_pos (Or.inr (Or.inr (Or.inl (fun e => by simp only [GenM.mk.injEq] at e; simp [e.2] at d5))))]; rfl)
          go_upto_if 113 with (fail)
          clear q0 q1 q2 q3 q4 q5 q6 lq
          replace H1 := Lib.hid (And.intro H1.out.1 H1.out.2.right)
          go_wp2_with (fail)
          clear t0 t1 t2 t3 lt lr
          clear p0 p1 p2 p3 p4 p5 p6 lp
          replace H1 := Lib.hid (And.intro H1.out.1.drew H1.out.2.drew)
          have hcells := Lib.hid (show ∀ (W : World) (X : HProp), Sat W (pts B (.cells #[.int .i64 (tn : Int), .int .i64 nu, .int .i64 ge, .int .i64 gc] TTail (0, 0)) * X) → W.cell? ⟨B, 0, none⟩ = some (.int .i64 (tn : Int)) ∧ W.cell? ⟨B, 1, none⟩ = some (.int .i64 nu) ∧ W.cell? ⟨B, 2, none⟩ = some (.int .i64 ge) ∧ W.cell? ⟨B, 3, none⟩ = some (.int .i64 gc) from fun W X h => by have h1 := cells_at h.block; exact ⟨h1 0, h1 1, h1 2, h1 3⟩)
          have hS0 := hcells.out _ _ H1.out.2
          refine reg_begin (fun w' => w'.cell? ⟨B, 0, none⟩ = some (.int .i64 (tn : Int)) ∧ w'.cell? ⟨B, 1, none⟩ = some (.int .i64 nu) ∧ w'.cell? ⟨B, 2, none⟩ = some (.int .i64 ge) ∧ w'.cell? ⟨B, 3, none⟩ = some (.int .i64 gc)) (by kernel_rfl) ?_
          (apply reg_take 0 rfl rfl (by decide +kernel) rfl); (rintro w' ⟨h1, h2, h3, h4⟩; go_simp; rfl); exact hS0; simp only [List.setIfInBounds_toArray, List.set_cons_succ, List.set_cons_zero]
          (apply reg_take 1 rfl rfl (by decide +kernel) rfl); (rintro w' ⟨h1, h2, h3, h4⟩; go_simp; rfl); exact hS0; simp only [List.setIfInBounds_toArray, List.set_cons_succ, List.set_cons_zero]
          (apply reg_take 2 rfl rfl (by decide +kernel) rfl); (rintro w' ⟨h1, h2, h3, h4⟩; go_simp; rfl); exact hS0; simp only [List.setIfInBounds_toArray, List.set_cons_succ, List.set_cons_zero]
          refine reg_store_blk 3 (T := TTail) (old := zTail) (new := #[.int .i64 (tn : Int), .int .i64 nu, .int .i64 ge, .int .i64 gc]) rfl rfl (by decide +kernel) rfl rfl rfl rfl (H1.out.2.perm (star_left_comm _ _ _)) (infoTail rfl) rfl (by simp [Value.oneCell']) ?_
          intro w9 h9
          replace H1 := Lib.hid (And.intro (H1.out.1.trans h9.out.1) h9.out.2)
          replace hS0 := hcells.out _ _ (h9.out.2.perm (star_left_comm _ _ _))
          refine ⟨hS0, ?_⟩
          clear h9
          (apply reg_take 4 rfl rfl (by decide +kernel) rfl); (rintro w' ⟨h1, h2, h3, h4⟩; go_simp; rfl); exact hS0; simp only [List.setIfInBounds_toArray, List.set_cons_succ, List.set_cons_zero]
          (apply reg_take 5 rfl rfl (by decide +kernel) rfl); (rintro w' ⟨h1, h2, h3, h4⟩; go_simp; rfl); exact hS0; simp only [List.setIfInBounds_toArray, List.set_cons_succ, List.set_cons_zero]
          refine reg_done (by decide +kernel) ?_
          clear hS0
          go_wp2
          refine bodyPost_ret (v := .tuple #[.string (strB []), .agg #[.int .i64 (tn : Int), .int .i64 nu, .int .i64 ge, .int .i64 gc], .bool false, .int .i64 0]) (results4 Try.results27 (.tmp rfl) (ResIs.row rfl H1.out.2.block Try.underlying31 rfl (infoTail rfl)) (.tmp rfl) (.tmp rfl)) rfl ?_
          unfold NextOut
          rw [HB.out]
          exact ⟨rfl, H1.out.1, H1.out.2.right.right.right⟩
        cases d6 : (yl == xl - 26 * (k : Int))
        · have HB := Lib.hid (show restL f N d tn ⟨⟨xg, xh⟩, ⟨xe, xf⟩, xn, xl, xb⟩ 1 (n - 1) = none from by rw [HR2.out, if_pos (Or.inr (Or.inr (Or.inr (fun e => by rw [show yl = xl - 26 * (k : Int) from e] at d6; simp at d6))))]; rfl)
          have d6n : (yl != xl - 26 * (k : Int)) = true := by simp only [bne, d6, Bool.not_false]
          go_upto_if 113 with (fail)
          clear q0 q1 q2 q3 q4 q5 q6 lq
          replace H1 := Lib.hid (And.intro H1.out.1 H1.out.2.right)
          go_wp2_with (fail)
          clear t0 t1 t2 t3 lt lr
          clear p0 p1 p2 p3 p4 p5 p6 lp
          replace H1 := Lib.hid (And.intro H1.out.1.drew H1.out.2.drew)
          have hcells := Lib.hid (show ∀ (W : World) (X : HProp), Sat W (pts B (.cells #[.int .i64 (tn : Int), .int .i64 nu, .int .i64 ge, .int .i64 gc] TTail (0, 0)) * X) → W.cell? ⟨B, 0, none⟩ = some (.int .i64 (tn : Int)) ∧ W.cell? ⟨B, 1, none⟩ = some (.int .i64 nu) ∧ W.cell? ⟨B, 2, none⟩ = some (.int .i64 ge) ∧ W.cell? ⟨B, 3, none⟩ = some (.int .i64 gc) from fun W X h => by have h1 := cells_at h.block; exact ⟨h1 0, h1 1, h1 2, h1 3⟩)
          have hS0 := hcells.out _ _ H1.out.2
          refine reg_begin (fun w' => w'.cell? ⟨B, 0, none⟩ = some (.int .i64 (tn : Int)) ∧ w'.cell? ⟨B, 1, none⟩ = some (.int .i64 nu) ∧ w'.cell? ⟨B, 2, none⟩ = some (.int .i64 ge) ∧ w'.cell? ⟨B, 3, none⟩ = some (.int .i64 gc)) (by kernel_rfl) ?_
          (apply reg_take 0 rfl rfl (by decide +kernel) rfl); (rintro w' ⟨h1, h2, h3, h4⟩; go_simp; rfl); exact hS0; simp only [List.setIfInBounds_toArray, List.set_cons_succ, List.set_cons_zero]
          (apply reg_take 1 rfl rfl (by decide +kernel) rfl); (rintro w' ⟨h1, h2, h3, h4⟩; go_simp; rfl); exact hS0; simp only [List.setIfInBounds_toArray, List.set_cons_succ, List.set_cons_zero]
          (apply reg_take 2 rfl rfl (by decide +kernel) rfl); (rintro w' ⟨h1, h2, h3, h4⟩; go_simp; rfl); exact hS0; simp only [List.setIfInBounds_toArray, List.set_cons_succ, List.set_cons_zero]
          refine reg_store_blk 3 (T := TTail) (old := zTail) (new := #[.int .i64 (tn : Int), .int .i64 nu, .int .i64 ge, .int .i64 gc]) rfl rfl (by decide +kernel) rfl rfl rfl rfl (H1.out.2.perm (star_left_comm _ _ _)) (infoTail rfl) rfl (by simp [Value.oneCell']) ?_
          intro w9 h9
          replace H1 := Lib.hid (And.intro (H1.out.1.trans h9.out.1) h9.out.2)
          replace hS0 := hcells.out _ _ (h9.out.2.perm (star_left_comm _ _ _))
          refine ⟨hS0, ?_⟩
          clear h9
          (apply reg_take 4 rfl rfl (by decide +kernel) rfl); (rintro w' ⟨h1, h2, h3, h4⟩; go_simp; rfl); exact hS0; simp only [List.setIfInBounds_toArray, List.set_cons_succ, List.set_cons_zero]
          (apply reg_take 5 rfl rfl (by decide +kernel) rfl); (rintro w' ⟨h1, h2, h3, h4⟩; go_simp; rfl); exact hS0; simp only [List.setIfInBounds_toArray, List.set_cons_succ, List.set_cons_zero]
          refine reg_done (by decide +kernel) ?_
          clear hS0
          go_wp2
          refine bodyPost_ret (v := .tuple #[.string (strB []), .agg #[.int .i64 (tn : Int), .int .i64 nu, .int .i64 ge, .int .i64 gc], .bool false, .int .i64 0]) (results4 Try.results27 (.tmp rfl) (ResIs.row rfl H1.out.2.block Try.underlying31 rfl (infoTail rfl)) (.tmp rfl) (.tmp rfl)) rfl ?_
          unfold NextOut
          rw [HB.out]
          exact ⟨rfl, H1.out.1, H1.out.2.right.right.right⟩
        have d6n : (yl != xl - 26 * (k : Int)) = false := by simp only [bne, d6, Bool.not_true]
        have HS := Lib.hid (show restL f N d tn ⟨⟨xg, xh⟩, ⟨xe, xf⟩, xn, xl, xb⟩ 1 (n - 1) = (restL f N d tn ⟨⟨xg, xh⟩, ⟨xe, xf⟩, xn, xl, xb⟩ (k + 1) m).map ((pre ++ yb) ++ ·) from by
          simp only [beq_iff_eq] at d1 d2 d3 d4 d5 d6
          subst d1 d2 d3 d4 d5 d6
          rw [HR2.out, if_neg (by simp), Option.map_map]
          congr 1
          funext z
          simp [List.append_assoc])
        go_upto_if 113 with (fail)
        have hz1 : (strB (xb ++ pre)).size ≤ 4108 := by have := HLEN.out; rw [strB_size]; omega
        have hz2 : (strB yb).size ≤ 26 := by rw [strB_size]; exact hyb
        clear d1 d2 d3 d4 d5 d6 d3n d6n
        go_wp2
        refine ⟨⟨⟨k + 1, pre ++ yb, by omega, by omega, rfl, by rw [strB_app, List.append_assoc], ?_, ?_, H1.out.1, ?_⟩⟩, by simp only [intOf]; omega⟩
        · have := HLEN.out
          simp only [List.length_append] at this ⊢
          omega
        · rw [HS.out, show n - (k + 1) = m by omega]
        · unfold nxBlk
          exact H1.out.2.right
    · obtain rfl : k = n := by omega
      have hltd : decide ((k : Int) < (k : Int)) = false := by simp
      have HB := Lib.hid (show restL f N d tn ⟨⟨xg, xh⟩, ⟨xe, xf⟩, xn, xl, xb⟩ 1 (k - 1) = some pre from by rw [HREST.out, Nat.sub_self]; simp [restL])
      have hsum : IntKind.i64.wrap ((tn : Int) + (k : Int)) = (tn : Int) + (k : Int) := IntWalk.i64_in _ (by omega)
      obtain ⟨t0, t1, t2, t3, lt, lr⟩ := nx_tail H1.out.2
      obtain ⟨p0, p1, p2, p3, p4, p5, p6, lp⟩ := nx_part H1.out.2
      go_wp2_with (fail)
      clear t0 t1 t2 t3 lt lr p0 p1 p2 p3 p4 p5 p6 lp
      replace H1 := Lib.hid (And.intro H1.out.1.drew H1.out.2.drew)
      have hcells := Lib.hid (show ∀ (W : World) (X Y : HProp), Sat W (pts B (.cells #[.int .i64 (tn : Int), .int .i64 nu, .int .i64 ge, .int .i64 gc] TTail (0, 0)) * (Y * (pts C (.cells #[.int .i64 xg, .int .i64 xh, .int .i64 xe, .int .i64 xf, .int .i64 xn, .int .i64 xl, .string (strB xb)] TPart (0, 0)) * X))) → W.cell? ⟨B, 0, none⟩ = some (.int .i64 (tn : Int)) ∧ W.cell? ⟨C, 0, none⟩ = some (.int .i64 xg) ∧ W.cell? ⟨C, 1, none⟩ = some (.int .i64 xh) ∧ W.cell? ⟨C, 4, none⟩ = some (.int .i64 xn) from fun W X Y h => by
        have h1 := cells_at h.block
        have h2 := cells_at h.right.right.block
        exact ⟨h1 0, h2 0, h2 1, h2 4⟩)
      have hS0 := hcells.out _ _ _ H1.out.2
      refine reg_begin (fun w' => w'.cell? ⟨B, 0, none⟩ = some (.int .i64 (tn : Int)) ∧ w'.cell? ⟨C, 0, none⟩ = some (.int .i64 xg) ∧ w'.cell? ⟨C, 1, none⟩ = some (.int .i64 xh) ∧ w'.cell? ⟨C, 4, none⟩ = some (.int .i64 xn)) (by kernel_rfl) ?_
      (apply reg_take 0 rfl rfl (by decide +kernel) rfl); (rintro w' ⟨h1, h2, h3, h4⟩; go_simp; rfl); exact hS0; simp only [List.setIfInBounds_toArray, List.set_cons_succ, List.set_cons_zero]
      (apply reg_take 1 rfl rfl (by decide +kernel) rfl); (rintro w' ⟨h1, h2, h3, h4⟩; go_simp; rfl); exact hS0; simp only [List.setIfInBounds_toArray, List.set_cons_succ, List.set_cons_zero]
      (apply reg_take 2 rfl rfl (by decide +kernel) rfl); (rintro w' ⟨h1, h2, h3, h4⟩; go_simp; rfl); exact hS0; simp only [List.setIfInBounds_toArray, List.set_cons_succ, List.set_cons_zero]
      (apply reg_take 3 rfl rfl (by decide +kernel) rfl); (rintro w' ⟨h1, h2, h3, h4⟩; go_simp; rfl); exact hS0; simp only [List.setIfInBounds_toArray, List.set_cons_succ, List.set_cons_zero]
      (apply reg_take 4 rfl rfl (by decide +kernel) rfl); (rintro w' ⟨h1, h2, h3, h4⟩; go_simp; rfl); exact hS0; simp only [List.setIfInBounds_toArray, List.set_cons_succ, List.set_cons_zero]
      (apply reg_take 5 rfl rfl (by decide +kernel) rfl); (rintro w' ⟨h1, h2, h3, h4⟩; go_simp; rfl); exact hS0; simp only [List.setIfInBounds_toArray, List.set_cons_succ, List.set_cons_zero]
      (apply reg_take 6 rfl rfl (by decide +kernel) rfl); (rintro w' ⟨h1, h2, h3, h4⟩; go_simp; rfl); exact hS0; simp only [List.setIfInBounds_toArray, List.set_cons_succ, List.set_cons_zero]
      (apply reg_take 7 rfl rfl (by decide +kernel) rfl); (rintro w' ⟨h1, h2, h3, h4⟩; go_simp; rfl); exact hS0; simp only [List.setIfInBounds_toArray, List.set_cons_succ, List.set_cons_zero]
      (apply reg_take 8 rfl rfl (by decide +kernel) rfl); (rintro w' ⟨h1, h2, h3, h4⟩; go_simp; rfl); exact hS0; simp only [List.setIfInBounds_toArray, List.set_cons_succ, List.set_cons_zero]
      (apply reg_take 9 rfl rfl (by decide +kernel) rfl); (rintro w' ⟨h1, h2, h3, h4⟩; go_simp; rfl); exact hS0; simp only [List.setIfInBounds_toArray, List.set_cons_succ, List.set_cons_zero]
      (apply reg_take 10 rfl rfl (by decide +kernel) rfl); (rintro w' ⟨h1, h2, h3, h4⟩; go_simp; rfl); exact hS0; simp only [List.setIfInBounds_toArray, List.set_cons_succ, List.set_cons_zero]
      refine reg_store_blk 11 (T := TTail) (old := zTail) (new := #[.int .i64 ((tn : Int) + (k : Int)), .int .i64 xn, .int .i64 xg, .int .i64 xh]) rfl rfl (by decide +kernel) rfl rfl rfl rfl (H1.out.2.perm (star_left_comm _ _ _)) (infoTail rfl) rfl (by simp [Value.oneCell']) ?_
      intro w9 h9
      replace H1 := Lib.hid (And.intro (H1.out.1.trans h9.out.1) h9.out.2)
      replace hS0 := hcells.out _ _ _ (h9.out.2.perm (star_left_comm _ _ _))
      refine ⟨hS0, ?_⟩
      clear h9
      (apply reg_take 12 rfl rfl (by decide +kernel) rfl); (rintro w' ⟨h1, h2, h3, h4⟩; go_simp; rfl); exact hS0; simp only [List.setIfInBounds_toArray, List.set_cons_succ, List.set_cons_zero]
      (apply reg_take 13 rfl rfl (by decide +kernel) rfl); (rintro w' ⟨h1, h2, h3, h4⟩; go_simp; rfl); exact hS0; simp only [List.setIfInBounds_toArray, List.set_cons_succ, List.set_cons_zero]
      refine reg_done (by decide +kernel) ?_
      clear hS0 hsum
      go_wp2
      refine bodyPost_ret (v := .tuple #[.string (strB (xb ++ pre)), .agg #[.int .i64 ((tn : Int) + (k : Int)), .int .i64 xn, .int .i64 xg, .int .i64 xh], .bool true, .int .i64 0]) (results4 Try.results27 (.tmp rfl) (ResIs.row rfl H1.out.2.block Try.underlying31 rfl (infoTail rfl)) (.tmp rfl) (.tmp rfl)) rfl ?_
      unfold NextOut
      rw [HB.out]
      exact ⟨rfl, H1.out.1, H1.out.2.right.right.right⟩
end Go.Proofs.Ytbegomjbakidmaa
