/- solventlaw18.sanity. -/
import Derived.Test.YtbegomjbakidmaaGw
namespace Go.Proofs.Ytbegomjbakidmaa
open Go.RowKit Go.Sl Go.ChangeMaps

theorem ownS_strs {w : World} {v : Value} {l : List (List UInt8)} {F : HProp} (h : Sat w (ownS v l * F)) : StrsAt w v (l.map strB) := by
  unfold ownS strsL at h
  have e : (l.map fun s => Value.string (strB s)) = (l.map strB).map Value.string := by simp
  rw [e] at h
  exact ownAt_strs h
theorem app_to {p : Nat} {S S' : ShelfM} {F : HProp} {d : Int} {t t' : TailM} {g : GenM} {r : List UInt8} {e : Int} (h : appM S d t g r = (S', t', e)) (hr : r.length ≤ 9223372036854775807) (X : HProp) (W : World) (hS : Sat W (X * (shelfAt SH p S * F))) :
    Calls Try.prog 15 #[.pointer (some ⟨p, 0, none⟩), .int .i64 d, .agg (tailA t), .agg (genA g), .string (strB r)] W fun e' w' => e' = .returned (.tuple #[.agg (tailA t'), .int .i64 e]) ∧ Hid (Same W w' ∧ Sat w' (X * (shelfAt SH p S' * F))) := by
  have h1 := append_any p S (X * F) d t g r hr W (hS.perm (by ac_rfl))
  rw [h] at h1
  exact h1.mono fun e w' h' => ⟨h'.1, h'.2.out.1, h'.2.out.2.perm (by ac_rfl)⟩
theorem mark_to {p : Nat} {S S' : ShelfM} {F : HProp} {c : CfgM} (hf : FineS c S) {d : Int} {n : Nat} (hd : 0 ≤ d ∧ d < c.disks) (hl : 3 ≤ c.log) (hn : 1 ≤ n ∧ n < 4294967296) {e : Int} (h : markM S d n = (S', e)) (X : HProp) (W : World) (hS : Sat W (X * (shelfAt SH p S * F))) :
    Calls Try.prog 23 #[.pointer (some ⟨p, 0, none⟩), .int .i64 d, .int .i64 (n : Int)] W fun e' w' => e' = .returned (.int .i64 e) ∧ Hid (Same W w' ∧ Sat w' (X * (shelfAt SH p S' * F))) := by
  have h1 := mark_any p S (X * F) d n (by rw [hf.cfg]; exact hd) (by rw [hf.cfg]; exact hl) hn W (hS.perm (by ac_rfl))
  rw [h] at h1
  exact h1.mono fun e w' h' => ⟨h'.1, h'.2.out.1, h'.2.out.2.perm (by ac_rfl)⟩
theorem marked_to {p : Nat} {S : ShelfM} {F : HProp} {c : CfgM} (hf : FineS c S) {d : Int} {a : Nat} (hl : c.log = (a : Int) + 3) (hd : 0 ≤ d ∧ d < c.disks) {x y : Int} (h : markedM (conL S d) d a 3 = (x, y)) (X : HProp) (W : World) (hS : Sat W (X * (shelfAt SH p S * F))) :
    Calls Try.prog 24 #[.pointer (some ⟨p, 0, none⟩), .int .i64 d] W fun e' w' => e' = .returned (.tuple #[.int .i64 x, .int .i64 y, .int .i64 0]) ∧ Hid (Same W w' ∧ Sat w' (X * (shelfAt SH p S * F))) := by
  have h1 := marked_fine (F := X * F) hf hl hd (hS.perm (by ac_rfl))
  rw [h] at h1
  exact h1.mono fun e w' h' => ⟨h'.1, h'.2.out.1, h'.2.out.2.perm (by ac_rfl)⟩
theorem san_cells {w : World} {A : Nat} {t : TailM} {X Y : HProp} (h : Sat w ((pts A (.cells (tailA t) TTail (0, 0)) * X) * Y)) : w.cell? ⟨A, 0, none⟩ = some (.int .i64 t.next) ∧ w.cell? ⟨A, 1, none⟩ = some (.int .i64 t.number) ∧ w.cell? ⟨A, 2, none⟩ = some (.int .i64 t.gen.epoch) ∧ w.cell? ⟨A, 3, none⟩ = some (.int .i64 t.gen.count) ∧ A < w.heap.size := by
  rw [star_assoc] at h
  exact tail_cells4 h
def e3B (D : Nat) (v : Value) (g A Z : Nat) : HProp := pts D (.cells (tailA ⟨3, 2, ⟨1, 2⟩⟩) TTail (0, 0)) * (ownS v [rA, textL 27] * (pts g (.cells (tailA ⟨3, 2, ⟨1, 2⟩⟩) TTail (0, 0)) * (pts A (.cells (tailA ⟨1, 1, ⟨1, 1⟩⟩) TTail (0, 0)) * pts Z (.cells (tailA ⟨0, 0, ⟨0, 0⟩⟩) TTail (0, 0)))))
theorem t4 {w : World} {B : Nat} {t : TailM} {X : HProp} (h : Sat w (pts B (.cells (tailA t) TTail (0, 0)) * X)) : w.cell? ⟨B, 0, none⟩ = some (.int .i64 t.next) ∧ w.cell? ⟨B, 1, none⟩ = some (.int .i64 t.number) ∧ w.cell? ⟨B, 2, none⟩ = some (.int .i64 t.gen.epoch) ∧ w.cell? ⟨B, 3, none⟩ = some (.int .i64 t.gen.count) ∧ B < w.heap.size := tail_cells4 h
def C4 (w : World) (B : Nat) (a b c d : Int) : Prop := w.cell? ⟨B, 0, none⟩ = some (.int .i64 a) ∧ w.cell? ⟨B, 1, none⟩ = some (.int .i64 b) ∧ w.cell? ⟨B, 2, none⟩ = some (.int .i64 c) ∧ w.cell? ⟨B, 3, none⟩ = some (.int .i64 d) ∧ B < w.heap.size
theorem e2_cells {w : World} {g A Z : Nat} {Y : HProp} (h : Sat w (pts g (.cells (tailA ⟨3, 2, ⟨1, 2⟩⟩) TTail (0, 0)) * ((pts A (.cells (tailA ⟨1, 1, ⟨1, 1⟩⟩) TTail (0, 0)) * pts Z (.cells (tailA ⟨0, 0, ⟨0, 0⟩⟩) TTail (0, 0))) * Y))) : C4 w g 3 2 1 2 ∧ C4 w A 1 1 1 1 ∧ C4 w Z 0 0 0 0 := by
  refine ⟨t4 h, ?_, ?_⟩
  · have h2 := h.right
    rw [star_assoc] at h2
    exact t4 h2
  · have h2 := h.right
    rw [star_assoc] at h2
    exact t4 h2.right
theorem e3_cells {w : World} {D g A Z : Nat} {v : Value} {Y : HProp} (h : Sat w (e3B D v g A Z * Y)) : C4 w D 3 2 1 2 ∧ C4 w g 3 2 1 2 ∧ C4 w A 1 1 1 1 ∧ C4 w Z 0 0 0 0 := by
  have h1 := h.left
  unfold e3B at h1
  refine ⟨t4 h1, t4 h1.right.right, t4 h1.right.right.right, ?_⟩
  have h2 := h1.right.right.right.right
  rw [← star_emp (pts _ _)] at h2
  exact t4 h2
theorem e3_strs {w : World} {D g A Z : Nat} {v : Value} {Y : HProp} (h : Sat w (e3B D v g A Z * Y)) : StrsAt w v [strB rA, strB (textL 27)] := by
  have h1 := h.left
  unfold e3B at h1
  exact ownS_strs h1.right
theorem pair_strs (w : World) (x y : ByteArray) : StrsAt (w.alloc (.cells #[.string x, .string y] TString)) (.slice (some ⟨w.heap.size, 0, none⟩) 2 2) [x, y] := by
  refine ⟨_, _, rfl, fun _ => ⟨w.heap.size, 0, rfl, fun j z hz => ?_⟩⟩
  rw [Nat.zero_add, Nat.mul_one, cells_at (heap_alloc_new w _)]
  match j, hz with
  | 0, hz => cases hz; rfl
  | 1, hz => cases hz; rfl
set_option maxHeartbeats 4000000 in
set_option maxRecDepth 100000 in
theorem sanity18_any (F : HProp) (w : World) (hF : Sat w F) : Calls Try.prog 10 #[] w fun e w' => e = .returned (.bool true) ∧ Hid (Same w w' ∧ Sat w' F) := by
  obtain ⟨S1, S2, S3, S4, S5, ha, hb, hf2, hsc, hst, hfu, hm0, hk4, hk5, hk6, hf3, hf4, hf5, hm5⟩ := san
  have HNEW := Lib.hid (show ∀ W, Sat W F → _ from fun W h => snew_ok (cfgW 8) F W h (cfgW_ok (by omega) (by omega)) (by rw [cfgW_sectors]; omega))
  have HCF := Lib.hid (fun W => config18_any 8 (by omega) (by omega) W)
  have HA := Lib.hid (And.intro ha (And.intro hb (And.intro hst (And.intro hfu (And.intro hm0 (And.intro hk4 (And.intro hk5 (And.intro hk6 (And.intro hm5 (And.intro hsc (And.intro hf2 (And.intro hf3 (And.intro hf4 hf5)))))))))))))
  have HF := Lib.hid hF
  have HTX := Lib.hid (fun (n : Nat) (h1 : 0 < n) (h2 : n ≤ 1000) (X : HProp) (W : World) (h : Sat W X) => text_any n h1 h2 X W h)
  clear ha hb hf2 hsc hst hfu hm0 hk4 hk5 hk6 hf3 hf4 hf5 hm5 hF
  go_enter Try.func10, Try.ntmps10
  go_upto_region 2 with (first
    | (go_at_call 19; refine (HCF.out _).mono ?_; rintro e w1 ⟨rfl, hb1⟩)
    | (go_at_call 18; refine (HNEW.out _ (HF.out.below hb1)).mono ?_; rintro e w2 ⟨p, rfl, h2⟩))
  have H1 := Lib.hid (And.intro (((Same.refl w).below hb1).trans h2.out.1) h2.out.2)
  clear h2 hb1
  go_upto_region 5 with (fail)
  replace H1 := Lib.hid (And.intro (H1.out.1.alloc (.cells (tailA ⟨0, 0, ⟨0, 0⟩⟩) TTail)) (H1.out.2.alloc (.cells (tailA ⟨0, 0, ⟨0, 0⟩⟩) TTail)))
  generalize w2.alloc (.cells (tailA ⟨0, 0, ⟨0, 0⟩⟩) TTail) = w3 at H1 ⊢
  generalize w2.heap.size = Z at H1 ⊢
  obtain ⟨z0, z1, z2, z3, lz⟩ := tail_cells4 H1.out.2
  have HAP1 := Lib.hid (fun (X : HProp) (W : World) (h : Sat W (X * (shelfAt SH p (ShelfM.new (cfgW 8)) * F))) => app_to HA.out.1 (by decide) X W h)
  have HAP2 := Lib.hid (fun (X : HProp) (W : World) (h : Sat W (X * (shelfAt SH p S1 * F))) => app_to HA.out.2.1 (by rw [textL_length]; decide) X W h)
  go_upto_region 6 with (go_at_call 15; refine (HAP1.out _ _ H1.out.2).mono ?_; rintro e w4 ⟨rfl, h4⟩; replace H1 := Lib.hid (And.intro (H1.out.1.trans h4.out.1) h4.out.2); clear h4 z0 z1 z2 z3 lz)
  replace H1 := Lib.hid (And.intro (H1.out.1.alloc (.cells (tailA ⟨1, 1, ⟨1, 1⟩⟩) TTail)).drew (show Sat _ ((pts w4.heap.size (.cells (tailA ⟨1, 1, ⟨1, 1⟩⟩) TTail (0, 0)) * pts Z (.cells (tailA ⟨0, 0, ⟨0, 0⟩⟩) TTail (0, 0))) * (shelfAt SH p S1 * F)) from ((H1.out.2.alloc (.cells (tailA ⟨1, 1, ⟨1, 1⟩⟩) TTail)).drew.perm (star_assoc _ _ _).symm)))
  generalize hw5 : (w4.alloc (.cells (tailA ⟨1, 1, ⟨1, 1⟩⟩) TTail)) = w5 at H1 ⊢
  generalize w4.heap.size = A at H1 ⊢
  have hS0 := (san_cells H1.out.2)
  replace hS0 := And.intro hS0.1 (And.intro hS0.2.1 (And.intro hS0.2.2.1 hS0.2.2.2.1))
  refine reg_begin (fun w' => w'.cell? ⟨A, 0, none⟩ = some (.int .i64 1) ∧ w'.cell? ⟨A, 1, none⟩ = some (.int .i64 1) ∧ w'.cell? ⟨A, 2, none⟩ = some (.int .i64 1) ∧ w'.cell? ⟨A, 3, none⟩ = some (.int .i64 1)) (by kernel_rfl) ?_
  generalize w5.drew = w5 at H1 hS0 ⊢
  apply reg_cutT (K := fun g w' => Hid (Same w w' ∧ Sat w' (pts g (.cells (tailA ⟨3, 2, ⟨1, 2⟩⟩) TTail (0, 0)) * ((pts A (.cells (tailA ⟨1, 1, ⟨1, 1⟩⟩) TTail (0, 0)) * pts Z (.cells (tailA ⟨0, 0, ⟨0, 0⟩⟩) TTail (0, 0))) * (shelfAt SH p S2 * F)))))
  · skip
    (apply reg_take 0 rfl rfl (by decide +kernel) rfl); (rintro w' ⟨h1, h2, h3, h4⟩; go_simp; rfl); exact hS0; simp only [List.setIfInBounds_toArray, List.set_cons_succ, List.set_cons_zero]
    (apply reg_take 1 rfl rfl (by decide +kernel) rfl); (rintro w' ⟨h1, h2, h3, h4⟩; go_simp; rfl); exact hS0; simp only [List.setIfInBounds_toArray, List.set_cons_succ, List.set_cons_zero]
    (apply reg_take 2 rfl rfl (by decide +kernel) rfl); (rintro w' ⟨h1, h2, h3, h4⟩; go_simp; rfl); exact hS0; simp only [List.setIfInBounds_toArray, List.set_cons_succ, List.set_cons_zero]
    refine reg_fork 3 8 (by decide +kernel) ?_ ?_
    · refine rstep_call rfl rfl (by decide +kernel) rfl (f := 25) (args := #[.int .i64 27, .int .u8 97]) (R := fun v w' => v = .string (strB (textL 27)) ∧ Hid (Same w5 w' ∧ Sat w' ((pts A (.cells (tailA ⟨1, 1, ⟨1, 1⟩⟩) TTail (0, 0)) * pts Z (.cells (tailA ⟨0, 0, ⟨0, 0⟩⟩) TTail (0, 0))) * (shelfAt SH p S1 * F)))) (by kernel_rfl) ((HTX.out 27 (by decide) (by decide) _ w5 H1.out.2).mono fun e w' h => ⟨_, h.1, rfl, h.2⟩) ?_
      rintro _ w6 ⟨rfl, hx⟩
      replace H1 := Lib.hid (And.intro (H1.out.1.trans hx.out.1) hx.out.2)
      replace hS0 := (let hc := san_cells (H1.out.2); And.intro hc.1 (And.intro hc.2.1 (And.intro hc.2.2.1 hc.2.2.2.1)))
      clear hx
      refine ⟨hS0, ?_⟩
      simp only [List.setIfInBounds_toArray, List.set_cons_succ, List.set_cons_zero]
      refine reg_fork 4 8 (by decide +kernel) ?_ ?_
      · refine rstep_call rfl rfl (by decide +kernel) rfl (f := 15) (args := #[.pointer (some ⟨p, 0, none⟩), .int .i64 0, .agg (tailA ⟨1, 1, ⟨1, 1⟩⟩), .agg (genA ⟨1, 2⟩), .string (strB (textL 27))]) (R := fun v w' => v = .tuple #[.agg (tailA ⟨3, 2, ⟨1, 2⟩⟩), .int .i64 0] ∧ Hid (Same w6 w' ∧ Sat w' ((pts A (.cells (tailA ⟨1, 1, ⟨1, 1⟩⟩) TTail (0, 0)) * pts Z (.cells (tailA ⟨0, 0, ⟨0, 0⟩⟩) TTail (0, 0))) * (shelfAt SH p S2 * F)))) (by kernel_rfl) ((HAP2.out _ w6 H1.out.2).mono fun e w' h => ⟨_, h.1, rfl, h.2.out.1, h.2.out.2⟩) ?_
        rintro _ w7 ⟨rfl, hx⟩
        replace H1 := Lib.hid (And.intro (H1.out.1.trans hx.out.1) hx.out.2)
        replace hS0 := (let hc := san_cells (H1.out.2); And.intro hc.1 (And.intro hc.2.1 (And.intro hc.2.2.1 hc.2.2.2.1)))
        clear hx
        refine ⟨hS0, ?_⟩
        simp only [List.setIfInBounds_toArray, List.set_cons_succ, List.set_cons_zero]
        (apply reg_take 5 rfl rfl (by decide +kernel) rfl); (rintro w' ⟨h1, h2, h3, h4⟩; go_simp; rfl); exact hS0; simp only [List.setIfInBounds_toArray, List.set_cons_succ, List.set_cons_zero]
        (apply reg_take 6 rfl rfl (by decide +kernel) rfl); (rintro w' ⟨h1, h2, h3, h4⟩; go_simp; rfl); exact hS0; simp only [List.setIfInBounds_toArray, List.set_cons_succ, List.set_cons_zero]
        (apply reg_take 7 rfl rfl (by decide +kernel) rfl); (rintro w' ⟨h1, h2, h3, h4⟩; go_simp; rfl); exact hS0; simp only [List.setIfInBounds_toArray, List.set_cons_succ, List.set_cons_zero]
        refine reg_run 8 (.pointer (some ⟨w7.heap.size, 0, none⟩)) (w7.alloc (.cells zTail TTail)) rfl rfl (by decide +kernel) rfl (exec_alloc_zero rfl _ (zeroTail _)) ((let hc := san_cells ((H1.out.2.alloc (.cells zTail TTail)).right); And.intro hc.1 (And.intro hc.2.1 (And.intro hc.2.2.1 hc.2.2.2.1)))) ?_; simp only [List.setIfInBounds_toArray, List.set_cons_succ, List.set_cons_zero]
        replace H1 := Lib.hid (And.intro (H1.out.1.alloc (.cells zTail TTail)) (H1.out.2.alloc (.cells zTail TTail)))
        generalize w7.alloc (.cells zTail TTail) = w8 at H1 ⊢
        generalize w7.heap.size = g at H1 ⊢
        replace hS0 := (let hc := san_cells (H1.out.2.right); And.intro hc.1 (And.intro hc.2.1 (And.intro hc.2.2.1 hc.2.2.2.1)))
        refine reg_store_blk 9 (T := TTail) (old := zTail) (new := tailA ⟨3, 2, ⟨1, 2⟩⟩) rfl rfl (by decide +kernel) rfl rfl rfl rfl H1.out.2 (infoTail rfl) rfl (by simp [Value.oneCell']) ?_
        intro w9 h9
        replace H1 := Lib.hid (And.intro (H1.out.1.trans h9.out.1) h9.out.2)
        replace hS0 := (let hc := san_cells (H1.out.2.right); And.intro hc.1 (And.intro hc.2.1 (And.intro hc.2.2.1 hc.2.2.2.1)))
        clear h9
        refine ⟨hS0, ?_⟩
        (apply reg_take 10 rfl rfl (by decide +kernel) rfl); (rintro w' ⟨h1, h2, h3, h4⟩; go_simp; rfl); exact hS0; simp only [List.setIfInBounds_toArray, List.set_cons_succ, List.set_cons_zero]
        refine reg_done (by decide +kernel) ?_
        exact ⟨g, rfl, H1⟩
      · refine rstep_run (.pointer (some ⟨w6.heap.size, 0, none⟩)) (w6.alloc (.cells zTail TTail)) rfl rfl (by decide +kernel) rfl (exec_alloc_zero rfl _ (zeroTail _)) ((let hc := san_cells ((H1.out.2.alloc (.cells zTail TTail)).right); And.intro hc.1 (And.intro hc.2.1 (And.intro hc.2.2.1 hc.2.2.2.1)))) ?_; simp only [List.setIfInBounds_toArray, List.set_cons_succ, List.set_cons_zero]
        replace H1 := Lib.hid (And.intro (H1.out.1.alloc (.cells zTail TTail)) (H1.out.2.alloc (.cells zTail TTail)))
        generalize w6.alloc (.cells zTail TTail) = w7 at H1 ⊢
        generalize w6.heap.size = g at H1 ⊢
        replace hS0 := (let hc := san_cells (H1.out.2.right); And.intro hc.1 (And.intro hc.2.1 (And.intro hc.2.2.1 hc.2.2.2.1)))
        refine reg_call 4 rfl rfl (by decide +kernel) rfl (f := 15) (args := #[.pointer (some ⟨p, 0, none⟩), .int .i64 0, .agg (tailA ⟨1, 1, ⟨1, 1⟩⟩), .agg (genA ⟨1, 2⟩), .string (strB (textL 27))]) (R := fun v w' => v = .tuple #[.agg (tailA ⟨3, 2, ⟨1, 2⟩⟩), .int .i64 0] ∧ Hid (Same w7 w' ∧ Sat w' (pts g (.cells zTail TTail (0, 0)) * ((pts A (.cells (tailA ⟨1, 1, ⟨1, 1⟩⟩) TTail (0, 0)) * pts Z (.cells (tailA ⟨0, 0, ⟨0, 0⟩⟩) TTail (0, 0))) * (shelfAt SH p S2 * F))))) (by kernel_rfl) ((HAP2.out _ w7 (H1.out.2.perm (star_assoc _ _ _).symm)).mono fun e w' h => ⟨_, h.1, rfl, h.2.out.1, h.2.out.2.perm (star_assoc _ _ _)⟩) ?_
        rintro _ w8 ⟨rfl, hx⟩
        replace H1 := Lib.hid (And.intro (H1.out.1.trans hx.out.1) hx.out.2)
        replace hS0 := (let hc := san_cells (H1.out.2.right); And.intro hc.1 (And.intro hc.2.1 (And.intro hc.2.2.1 hc.2.2.2.1)))
        clear hx
        refine ⟨hS0, ?_⟩
        simp only [List.setIfInBounds_toArray, List.set_cons_succ, List.set_cons_zero]
        (apply reg_take 5 rfl rfl (by decide +kernel) rfl); (rintro w' ⟨h1, h2, h3, h4⟩; go_simp; rfl); exact hS0; simp only [List.setIfInBounds_toArray, List.set_cons_succ, List.set_cons_zero]
        (apply reg_take 6 rfl rfl (by decide +kernel) rfl); (rintro w' ⟨h1, h2, h3, h4⟩; go_simp; rfl); exact hS0; simp only [List.setIfInBounds_toArray, List.set_cons_succ, List.set_cons_zero]
        (apply reg_take 7 rfl rfl (by decide +kernel) rfl); (rintro w' ⟨h1, h2, h3, h4⟩; go_simp; rfl); exact hS0; simp only [List.setIfInBounds_toArray, List.set_cons_succ, List.set_cons_zero]
        refine reg_store_blk 9 (T := TTail) (old := zTail) (new := tailA ⟨3, 2, ⟨1, 2⟩⟩) rfl rfl (by decide +kernel) rfl rfl rfl rfl H1.out.2 (infoTail rfl) rfl (by simp [Value.oneCell']) ?_
        intro w9 h9
        replace H1 := Lib.hid (And.intro (H1.out.1.trans h9.out.1) h9.out.2)
        replace hS0 := (let hc := san_cells (H1.out.2.right); And.intro hc.1 (And.intro hc.2.1 (And.intro hc.2.2.1 hc.2.2.2.1)))
        clear h9
        refine ⟨hS0, ?_⟩
        (apply reg_take 10 rfl rfl (by decide +kernel) rfl); (rintro w' ⟨h1, h2, h3, h4⟩; go_simp; rfl); exact hS0; simp only [List.setIfInBounds_toArray, List.set_cons_succ, List.set_cons_zero]
        refine reg_done (by decide +kernel) ?_
        exact ⟨g, rfl, H1⟩
    · refine rstep_run (.pointer (some ⟨w5.heap.size, 0, none⟩)) (w5.alloc (.cells zTail TTail)) rfl rfl (by decide +kernel) rfl (exec_alloc_zero rfl _ (zeroTail _)) ((let hc := san_cells ((H1.out.2.alloc (.cells zTail TTail)).right); And.intro hc.1 (And.intro hc.2.1 (And.intro hc.2.2.1 hc.2.2.2.1)))) ?_; simp only [List.setIfInBounds_toArray, List.set_cons_succ, List.set_cons_zero]
      replace H1 := Lib.hid (And.intro (H1.out.1.alloc (.cells zTail TTail)) (H1.out.2.alloc (.cells zTail TTail)))
      generalize w5.alloc (.cells zTail TTail) = w6 at H1 ⊢
      generalize w5.heap.size = g at H1 ⊢
      replace hS0 := (let hc := san_cells (H1.out.2.right); And.intro hc.1 (And.intro hc.2.1 (And.intro hc.2.2.1 hc.2.2.2.1)))
      refine reg_call 3 rfl rfl (by decide +kernel) rfl (f := 25) (args := #[.int .i64 27, .int .u8 97]) (R := fun v w' => v = .string (strB (textL 27)) ∧ Hid (Same w6 w' ∧ Sat w' (pts g (.cells zTail TTail (0, 0)) * ((pts A (.cells (tailA ⟨1, 1, ⟨1, 1⟩⟩) TTail (0, 0)) * pts Z (.cells (tailA ⟨0, 0, ⟨0, 0⟩⟩) TTail (0, 0))) * (shelfAt SH p S1 * F))))) (by kernel_rfl) ((HTX.out 27 (by decide) (by decide) _ w6 H1.out.2).mono fun e w' h => ⟨_, h.1, rfl, h.2⟩) ?_
      rintro _ w7 ⟨rfl, hx⟩
      replace H1 := Lib.hid (And.intro (H1.out.1.trans hx.out.1) hx.out.2)
      replace hS0 := (let hc := san_cells (H1.out.2.right); And.intro hc.1 (And.intro hc.2.1 (And.intro hc.2.2.1 hc.2.2.2.1)))
      clear hx
      refine ⟨hS0, ?_⟩
      simp only [List.setIfInBounds_toArray, List.set_cons_succ, List.set_cons_zero]
      refine reg_call 4 rfl rfl (by decide +kernel) rfl (f := 15) (args := #[.pointer (some ⟨p, 0, none⟩), .int .i64 0, .agg (tailA ⟨1, 1, ⟨1, 1⟩⟩), .agg (genA ⟨1, 2⟩), .string (strB (textL 27))]) (R := fun v w' => v = .tuple #[.agg (tailA ⟨3, 2, ⟨1, 2⟩⟩), .int .i64 0] ∧ Hid (Same w7 w' ∧ Sat w' (pts g (.cells zTail TTail (0, 0)) * ((pts A (.cells (tailA ⟨1, 1, ⟨1, 1⟩⟩) TTail (0, 0)) * pts Z (.cells (tailA ⟨0, 0, ⟨0, 0⟩⟩) TTail (0, 0))) * (shelfAt SH p S2 * F))))) (by kernel_rfl) ((HAP2.out _ w7 (H1.out.2.perm (star_assoc _ _ _).symm)).mono fun e w' h => ⟨_, h.1, rfl, h.2.out.1, h.2.out.2.perm (star_assoc _ _ _)⟩) ?_
      rintro _ w8 ⟨rfl, hx⟩
      replace H1 := Lib.hid (And.intro (H1.out.1.trans hx.out.1) hx.out.2)
      replace hS0 := (let hc := san_cells (H1.out.2.right); And.intro hc.1 (And.intro hc.2.1 (And.intro hc.2.2.1 hc.2.2.2.1)))
      clear hx
      refine ⟨hS0, ?_⟩
      simp only [List.setIfInBounds_toArray, List.set_cons_succ, List.set_cons_zero]
      (apply reg_take 5 rfl rfl (by decide +kernel) rfl); (rintro w' ⟨h1, h2, h3, h4⟩; go_simp; rfl); exact hS0; simp only [List.setIfInBounds_toArray, List.set_cons_succ, List.set_cons_zero]
      (apply reg_take 6 rfl rfl (by decide +kernel) rfl); (rintro w' ⟨h1, h2, h3, h4⟩; go_simp; rfl); exact hS0; simp only [List.setIfInBounds_toArray, List.set_cons_succ, List.set_cons_zero]
      (apply reg_take 7 rfl rfl (by decide +kernel) rfl); (rintro w' ⟨h1, h2, h3, h4⟩; go_simp; rfl); exact hS0; simp only [List.setIfInBounds_toArray, List.set_cons_succ, List.set_cons_zero]
      refine reg_store_blk 9 (T := TTail) (old := zTail) (new := tailA ⟨3, 2, ⟨1, 2⟩⟩) rfl rfl (by decide +kernel) rfl rfl rfl rfl H1.out.2 (infoTail rfl) rfl (by simp [Value.oneCell']) ?_
      intro w9 h9
      replace H1 := Lib.hid (And.intro (H1.out.1.trans h9.out.1) h9.out.2)
      replace hS0 := (let hc := san_cells (H1.out.2.right); And.intro hc.1 (And.intro hc.2.1 (And.intro hc.2.2.1 hc.2.2.2.1)))
      clear h9
      refine ⟨hS0, ?_⟩
      (apply reg_take 10 rfl rfl (by decide +kernel) rfl); (rintro w' ⟨h1, h2, h3, h4⟩; go_simp; rfl); exact hS0; simp only [List.setIfInBounds_toArray, List.set_cons_succ, List.set_cons_zero]
      refine reg_done (by decide +kernel) ?_
      exact ⟨g, rfl, H1⟩
  intro g w6 H1
  dsimp only
  obtain ⟨⟨g0', g1', g2', g3', lg⟩, ⟨a0, a1, a2, a3, la⟩, z0, z1, z2, z3, lz⟩ := e2_cells H1.out.2
  have HSC := Lib.hid (show ∀ W X, Sat W (X * (shelfAt SH p S2 * F)) → Calls Try.prog 12 #[.pointer (some ⟨p, 0, none⟩), .int .i64 0, .agg (tailA ⟨0, 0, ⟨0, 0⟩⟩)] W fun e w' => ∃ v, e = .returned (.tuple #[v, .agg (tailA ⟨3, 2, ⟨1, 2⟩⟩), .int .i64 0]) ∧ Hid (Same W w' ∧ Sat w' (ownS v [rA, textL 27] * (X * (shelfAt SH p S2 * F)))) from fun W X h => by
    have h1 := scan_fine (F := X * F) (d := 0) (N := 8) HA.out.2.2.2.2.2.2.2.2.2.2.1 (by decide) (by decide) (by decide) (t := ⟨0, 0, ⟨0, 0⟩⟩) (by decide) HA.out.2.2.2.2.2.2.2.2.2.1 (by decide) (h.perm (star_left_comm _ _ _))
    exact h1.mono fun e w' ⟨v, he, hs⟩ => ⟨v, he, hs.out.1, hs.out.2.perm (by ac_rfl)⟩)
  go_upto_region 8 with (go_at_call 12; refine (HSC.out _ _ (H1.out.2.perm (star_assoc _ _ _).symm)).mono ?_; rintro e w7 ⟨vs, rfl, h7⟩; replace H1 := Lib.hid (And.intro (H1.out.1.trans h7.out.1) h7.out.2); clear h7 g0' g1' g2' g3' lg a0 a1 a2 a3 la z0 z1 z2 z3 lz)
  have hz := H1.out.2.alloc (.cells (tailA ⟨3, 2, ⟨1, 2⟩⟩) TTail)
  replace H1 := Lib.hid (And.intro (H1.out.1.alloc (.cells (tailA ⟨3, 2, ⟨1, 2⟩⟩) TTail)) (show Sat _ (e3B w7.heap.size vs g A Z * (shelfAt SH p S2 * F)) from hz.perm (by unfold e3B; ac_rfl)))
  clear hz HSC
  generalize w7.alloc (.cells (tailA ⟨3, 2, ⟨1, 2⟩⟩) TTail) = w8 at H1 ⊢
  generalize w7.heap.size = D at H1 ⊢
  obtain ⟨⟨d0, d1, d2, d3, ld⟩, ⟨g0', g1', g2', g3', lg⟩, ⟨a0, a1, a2, a3, la⟩, z0, z1, z2, z3, lz⟩ := e3_cells H1.out.2
  have HAPS := Lib.hid (fun (X : HProp) (W : World) (h : Sat W (X * (shelfAt SH p S2 * F))) => app_to HA.out.2.2.1 (by decide) X W h)
  have HAPF := Lib.hid (fun (X : HProp) (W : World) (h : Sat W (X * (shelfAt SH p S2 * F))) => app_to HA.out.2.2.2.1 (by rw [textL_length]; decide) X W h)
  go_upto_region 9 with (go_at_call 15; refine (HAPS.out _ _ H1.out.2).mono ?_; rintro e w9 ⟨rfl, h9⟩; replace H1 := Lib.hid (And.intro (H1.out.1.trans h9.out.1) h9.out.2); clear h9; clear d0 d1 d2 d3 ld g0' g1' g2' g3' lg a0 a1 a2 a3 la z0 z1 z2 z3 lz)
  replace H1 := Lib.hid (And.intro (H1.out.1.alloc (.cells (tailA noTail) TTail)).drew (show Sat _ (e3B D vs g A Z * (shelfAt SH p S2 * F)) from (H1.out.2.allocKeep (.cells (tailA noTail) TTail)).drew))
  have hS0 := (e3_cells H1.out.2).2.1
  replace hS0 := And.intro hS0.1 (And.intro hS0.2.1 (And.intro hS0.2.2.1 hS0.2.2.2.1))
  refine reg_begin (fun w' => w'.cell? ⟨g, 0, none⟩ = some (.int .i64 3) ∧ w'.cell? ⟨g, 1, none⟩ = some (.int .i64 2) ∧ w'.cell? ⟨g, 2, none⟩ = some (.int .i64 1) ∧ w'.cell? ⟨g, 3, none⟩ = some (.int .i64 2)) (by kernel_rfl) ?_
  generalize (w9.alloc (.cells (tailA noTail) TTail)).drew = w5 at H1 hS0 ⊢
  apply reg_cutT (K := fun q w' => Hid (Same w w' ∧ Sat w' (pts q (.cells (tailA ⟨0, 0, ⟨0, 0⟩⟩) TTail (0, 0)) * (e3B D vs g A Z * (shelfAt SH p S2 * F)))))
  · skip
    (apply reg_take 0 rfl rfl (by decide +kernel) rfl); (rintro w' ⟨h1, h2, h3, h4⟩; go_simp; rfl); exact hS0; simp only [List.setIfInBounds_toArray, List.set_cons_succ, List.set_cons_zero]
    (apply reg_take 1 rfl rfl (by decide +kernel) rfl); (rintro w' ⟨h1, h2, h3, h4⟩; go_simp; rfl); exact hS0; simp only [List.setIfInBounds_toArray, List.set_cons_succ, List.set_cons_zero]
    (apply reg_take 2 rfl rfl (by decide +kernel) rfl); (rintro w' ⟨h1, h2, h3, h4⟩; go_simp; rfl); exact hS0; simp only [List.setIfInBounds_toArray, List.set_cons_succ, List.set_cons_zero]
    refine reg_fork 3 8 (by decide +kernel) ?_ ?_
    · refine rstep_call rfl rfl (by decide +kernel) rfl (f := 25) (args := #[.int .i64 131, .int .u8 97]) (R := fun v w' => v = .string (strB (textL 131)) ∧ Hid (Same w5 w' ∧ Sat w' (e3B D vs g A Z * (shelfAt SH p S2 * F)))) (by kernel_rfl) ((HTX.out 131 (by decide) (by decide) _ w5 H1.out.2).mono fun e w' h => ⟨_, h.1, rfl, h.2⟩) ?_
      rintro _ w6 ⟨rfl, hx⟩
      replace H1 := Lib.hid (And.intro (H1.out.1.trans hx.out.1) hx.out.2)
      replace hS0 := (let hc := (e3_cells (H1.out.2)).2.1; And.intro hc.1 (And.intro hc.2.1 (And.intro hc.2.2.1 hc.2.2.2.1)))
      clear hx
      refine ⟨hS0, ?_⟩
      simp only [List.setIfInBounds_toArray, List.set_cons_succ, List.set_cons_zero]
      refine reg_fork 4 8 (by decide +kernel) ?_ ?_
      · refine rstep_call rfl rfl (by decide +kernel) rfl (f := 15) (args := #[.pointer (some ⟨p, 0, none⟩), .int .i64 0, .agg (tailA ⟨3, 2, ⟨1, 2⟩⟩), .agg (genA ⟨1, 3⟩), .string (strB (textL 131))]) (R := fun v w' => v = .tuple #[.agg (tailA ⟨0, 0, ⟨0, 0⟩⟩), .int .i64 16] ∧ Hid (Same w6 w' ∧ Sat w' (e3B D vs g A Z * (shelfAt SH p S2 * F)))) (by kernel_rfl) ((HAPF.out _ w6 H1.out.2).mono fun e w' h => ⟨_, h.1, rfl, h.2.out.1, h.2.out.2⟩) ?_
        rintro _ w7 ⟨rfl, hx⟩
        replace H1 := Lib.hid (And.intro (H1.out.1.trans hx.out.1) hx.out.2)
        replace hS0 := (let hc := (e3_cells (H1.out.2)).2.1; And.intro hc.1 (And.intro hc.2.1 (And.intro hc.2.2.1 hc.2.2.2.1)))
        clear hx
        refine ⟨hS0, ?_⟩
        simp only [List.setIfInBounds_toArray, List.set_cons_succ, List.set_cons_zero]
        (apply reg_take 5 rfl rfl (by decide +kernel) rfl); (rintro w' ⟨h1, h2, h3, h4⟩; go_simp; rfl); exact hS0; simp only [List.setIfInBounds_toArray, List.set_cons_succ, List.set_cons_zero]
        (apply reg_take 6 rfl rfl (by decide +kernel) rfl); (rintro w' ⟨h1, h2, h3, h4⟩; go_simp; rfl); exact hS0; simp only [List.setIfInBounds_toArray, List.set_cons_succ, List.set_cons_zero]
        (apply reg_take 7 rfl rfl (by decide +kernel) rfl); (rintro w' ⟨h1, h2, h3, h4⟩; go_simp; rfl); exact hS0; simp only [List.setIfInBounds_toArray, List.set_cons_succ, List.set_cons_zero]
        refine reg_run 8 (.pointer (some ⟨w7.heap.size, 0, none⟩)) (w7.alloc (.cells zTail TTail)) rfl rfl (by decide +kernel) rfl (exec_alloc_zero rfl _ (zeroTail _)) ((let hc := (e3_cells ((H1.out.2.alloc (.cells zTail TTail)).right)).2.1; And.intro hc.1 (And.intro hc.2.1 (And.intro hc.2.2.1 hc.2.2.2.1)))) ?_; simp only [List.setIfInBounds_toArray, List.set_cons_succ, List.set_cons_zero]
        replace H1 := Lib.hid (And.intro (H1.out.1.alloc (.cells zTail TTail)) (H1.out.2.alloc (.cells zTail TTail)))
        generalize w7.alloc (.cells zTail TTail) = w8 at H1 ⊢
        generalize w7.heap.size = q at H1 ⊢
        replace hS0 := (let hc := (e3_cells (H1.out.2.right)).2.1; And.intro hc.1 (And.intro hc.2.1 (And.intro hc.2.2.1 hc.2.2.2.1)))
        refine reg_store_blk 9 (T := TTail) (old := zTail) (new := tailA ⟨0, 0, ⟨0, 0⟩⟩) rfl rfl (by decide +kernel) rfl rfl rfl rfl H1.out.2 (infoTail rfl) rfl (by simp [Value.oneCell']) ?_
        intro w9 h9
        replace H1 := Lib.hid (And.intro (H1.out.1.trans h9.out.1) h9.out.2)
        replace hS0 := (let hc := (e3_cells (H1.out.2.right)).2.1; And.intro hc.1 (And.intro hc.2.1 (And.intro hc.2.2.1 hc.2.2.2.1)))
        clear h9
        refine ⟨hS0, ?_⟩
        (apply reg_take 10 rfl rfl (by decide +kernel) rfl); (rintro w' ⟨h1, h2, h3, h4⟩; go_simp; rfl); exact hS0; simp only [List.setIfInBounds_toArray, List.set_cons_succ, List.set_cons_zero]
        refine reg_done (by decide +kernel) ?_
        exact ⟨q, rfl, H1⟩
      · refine rstep_run (.pointer (some ⟨w6.heap.size, 0, none⟩)) (w6.alloc (.cells zTail TTail)) rfl rfl (by decide +kernel) rfl (exec_alloc_zero rfl _ (zeroTail _)) ((let hc := (e3_cells ((H1.out.2.alloc (.cells zTail TTail)).right)).2.1; And.intro hc.1 (And.intro hc.2.1 (And.intro hc.2.2.1 hc.2.2.2.1)))) ?_; simp only [List.setIfInBounds_toArray, List.set_cons_succ, List.set_cons_zero]
        replace H1 := Lib.hid (And.intro (H1.out.1.alloc (.cells zTail TTail)) (H1.out.2.alloc (.cells zTail TTail)))
        generalize w6.alloc (.cells zTail TTail) = w7 at H1 ⊢
        generalize w6.heap.size = q at H1 ⊢
        replace hS0 := (let hc := (e3_cells (H1.out.2.right)).2.1; And.intro hc.1 (And.intro hc.2.1 (And.intro hc.2.2.1 hc.2.2.2.1)))
        refine reg_call 4 rfl rfl (by decide +kernel) rfl (f := 15) (args := #[.pointer (some ⟨p, 0, none⟩), .int .i64 0, .agg (tailA ⟨3, 2, ⟨1, 2⟩⟩), .agg (genA ⟨1, 3⟩), .string (strB (textL 131))]) (R := fun v w' => v = .tuple #[.agg (tailA ⟨0, 0, ⟨0, 0⟩⟩), .int .i64 16] ∧ Hid (Same w7 w' ∧ Sat w' (pts q (.cells zTail TTail (0, 0)) * (e3B D vs g A Z * (shelfAt SH p S2 * F))))) (by kernel_rfl) ((HAPF.out _ w7 (H1.out.2.perm (star_assoc _ _ _).symm)).mono fun e w' h => ⟨_, h.1, rfl, h.2.out.1, h.2.out.2.perm (star_assoc _ _ _)⟩) ?_
        rintro _ w8 ⟨rfl, hx⟩
        replace H1 := Lib.hid (And.intro (H1.out.1.trans hx.out.1) hx.out.2)
        replace hS0 := (let hc := (e3_cells (H1.out.2.right)).2.1; And.intro hc.1 (And.intro hc.2.1 (And.intro hc.2.2.1 hc.2.2.2.1)))
        clear hx
        refine ⟨hS0, ?_⟩
        simp only [List.setIfInBounds_toArray, List.set_cons_succ, List.set_cons_zero]
        (apply reg_take 5 rfl rfl (by decide +kernel) rfl); (rintro w' ⟨h1, h2, h3, h4⟩; go_simp; rfl); exact hS0; simp only [List.setIfInBounds_toArray, List.set_cons_succ, List.set_cons_zero]
        (apply reg_take 6 rfl rfl (by decide +kernel) rfl); (rintro w' ⟨h1, h2, h3, h4⟩; go_simp; rfl); exact hS0; simp only [List.setIfInBounds_toArray, List.set_cons_succ, List.set_cons_zero]
        (apply reg_take 7 rfl rfl (by decide +kernel) rfl); (rintro w' ⟨h1, h2, h3, h4⟩; go_simp; rfl); exact hS0; simp only [List.setIfInBounds_toArray, List.set_cons_succ, List.set_cons_zero]
        refine reg_store_blk 9 (T := TTail) (old := zTail) (new := tailA ⟨0, 0, ⟨0, 0⟩⟩) rfl rfl (by decide +kernel) rfl rfl rfl rfl H1.out.2 (infoTail rfl) rfl (by simp [Value.oneCell']) ?_
        intro w9 h9
        replace H1 := Lib.hid (And.intro (H1.out.1.trans h9.out.1) h9.out.2)
        replace hS0 := (let hc := (e3_cells (H1.out.2.right)).2.1; And.intro hc.1 (And.intro hc.2.1 (And.intro hc.2.2.1 hc.2.2.2.1)))
        clear h9
        refine ⟨hS0, ?_⟩
        (apply reg_take 10 rfl rfl (by decide +kernel) rfl); (rintro w' ⟨h1, h2, h3, h4⟩; go_simp; rfl); exact hS0; simp only [List.setIfInBounds_toArray, List.set_cons_succ, List.set_cons_zero]
        refine reg_done (by decide +kernel) ?_
        exact ⟨q, rfl, H1⟩
    · refine rstep_run (.pointer (some ⟨w5.heap.size, 0, none⟩)) (w5.alloc (.cells zTail TTail)) rfl rfl (by decide +kernel) rfl (exec_alloc_zero rfl _ (zeroTail _)) ((let hc := (e3_cells ((H1.out.2.alloc (.cells zTail TTail)).right)).2.1; And.intro hc.1 (And.intro hc.2.1 (And.intro hc.2.2.1 hc.2.2.2.1)))) ?_; simp only [List.setIfInBounds_toArray, List.set_cons_succ, List.set_cons_zero]
      replace H1 := Lib.hid (And.intro (H1.out.1.alloc (.cells zTail TTail)) (H1.out.2.alloc (.cells zTail TTail)))
      generalize w5.alloc (.cells zTail TTail) = w6 at H1 ⊢
      generalize w5.heap.size = q at H1 ⊢
      replace hS0 := (let hc := (e3_cells (H1.out.2.right)).2.1; And.intro hc.1 (And.intro hc.2.1 (And.intro hc.2.2.1 hc.2.2.2.1)))
      refine reg_call 3 rfl rfl (by decide +kernel) rfl (f := 25) (args := #[.int .i64 131, .int .u8 97]) (R := fun v w' => v = .string (strB (textL 131)) ∧ Hid (Same w6 w' ∧ Sat w' (pts q (.cells zTail TTail (0, 0)) * (e3B D vs g A Z * (shelfAt SH p S2 * F))))) (by kernel_rfl) ((HTX.out 131 (by decide) (by decide) _ w6 H1.out.2).mono fun e w' h => ⟨_, h.1, rfl, h.2⟩) ?_
      rintro _ w7 ⟨rfl, hx⟩
      replace H1 := Lib.hid (And.intro (H1.out.1.trans hx.out.1) hx.out.2)
      replace hS0 := (let hc := (e3_cells (H1.out.2.right)).2.1; And.intro hc.1 (And.intro hc.2.1 (And.intro hc.2.2.1 hc.2.2.2.1)))
      clear hx
      refine ⟨hS0, ?_⟩
      simp only [List.setIfInBounds_toArray, List.set_cons_succ, List.set_cons_zero]
      refine reg_call 4 rfl rfl (by decide +kernel) rfl (f := 15) (args := #[.pointer (some ⟨p, 0, none⟩), .int .i64 0, .agg (tailA ⟨3, 2, ⟨1, 2⟩⟩), .agg (genA ⟨1, 3⟩), .string (strB (textL 131))]) (R := fun v w' => v = .tuple #[.agg (tailA ⟨0, 0, ⟨0, 0⟩⟩), .int .i64 16] ∧ Hid (Same w7 w' ∧ Sat w' (pts q (.cells zTail TTail (0, 0)) * (e3B D vs g A Z * (shelfAt SH p S2 * F))))) (by kernel_rfl) ((HAPF.out _ w7 (H1.out.2.perm (star_assoc _ _ _).symm)).mono fun e w' h => ⟨_, h.1, rfl, h.2.out.1, h.2.out.2.perm (star_assoc _ _ _)⟩) ?_
      rintro _ w8 ⟨rfl, hx⟩
      replace H1 := Lib.hid (And.intro (H1.out.1.trans hx.out.1) hx.out.2)
      replace hS0 := (let hc := (e3_cells (H1.out.2.right)).2.1; And.intro hc.1 (And.intro hc.2.1 (And.intro hc.2.2.1 hc.2.2.2.1)))
      clear hx
      refine ⟨hS0, ?_⟩
      simp only [List.setIfInBounds_toArray, List.set_cons_succ, List.set_cons_zero]
      (apply reg_take 5 rfl rfl (by decide +kernel) rfl); (rintro w' ⟨h1, h2, h3, h4⟩; go_simp; rfl); exact hS0; simp only [List.setIfInBounds_toArray, List.set_cons_succ, List.set_cons_zero]
      (apply reg_take 6 rfl rfl (by decide +kernel) rfl); (rintro w' ⟨h1, h2, h3, h4⟩; go_simp; rfl); exact hS0; simp only [List.setIfInBounds_toArray, List.set_cons_succ, List.set_cons_zero]
      (apply reg_take 7 rfl rfl (by decide +kernel) rfl); (rintro w' ⟨h1, h2, h3, h4⟩; go_simp; rfl); exact hS0; simp only [List.setIfInBounds_toArray, List.set_cons_succ, List.set_cons_zero]
      refine reg_store_blk 9 (T := TTail) (old := zTail) (new := tailA ⟨0, 0, ⟨0, 0⟩⟩) rfl rfl (by decide +kernel) rfl rfl rfl rfl H1.out.2 (infoTail rfl) rfl (by simp [Value.oneCell']) ?_
      intro w9 h9
      replace H1 := Lib.hid (And.intro (H1.out.1.trans h9.out.1) h9.out.2)
      replace hS0 := (let hc := (e3_cells (H1.out.2.right)).2.1; And.intro hc.1 (And.intro hc.2.1 (And.intro hc.2.2.1 hc.2.2.2.1)))
      clear h9
      refine ⟨hS0, ?_⟩
      (apply reg_take 10 rfl rfl (by decide +kernel) rfl); (rintro w' ⟨h1, h2, h3, h4⟩; go_simp; rfl); exact hS0; simp only [List.setIfInBounds_toArray, List.set_cons_succ, List.set_cons_zero]
      refine reg_done (by decide +kernel) ?_
      exact ⟨q, rfl, H1⟩
  intro q w10 H1
  try dsimp only
  replace H1 := Lib.hid (And.intro H1.out.1 H1.out.2.right)
  have HMK4 := Lib.hid (show ∀ X W, Sat W (X * (shelfAt SH p S2 * F)) → Calls Try.prog 23 #[.pointer (some ⟨p, 0, none⟩), .int .i64 0, .int .i64 4] W fun e w' => e = .returned (.int .i64 0) ∧ Hid (Same W w' ∧ Sat w' (X * (shelfAt SH p S3 * F))) from fun X W h => mark_to (n := 4) (d := 0) HA.out.2.2.2.2.2.2.2.2.2.2.1 (by decide) (by decide) (by decide) HA.out.2.2.2.2.2.1 X W h)
  have HMK5 := Lib.hid (show ∀ X W, Sat W (X * (shelfAt SH p S3 * F)) → Calls Try.prog 23 #[.pointer (some ⟨p, 0, none⟩), .int .i64 0, .int .i64 5] W fun e w' => e = .returned (.int .i64 0) ∧ Hid (Same W w' ∧ Sat w' (X * (shelfAt SH p S4 * F))) from fun X W h => mark_to (n := 5) (d := 0) HA.out.2.2.2.2.2.2.2.2.2.2.2.1 (by decide) (by decide) (by decide) HA.out.2.2.2.2.2.2.1 X W h)
  have HMK6 := Lib.hid (show ∀ X W, Sat W (X * (shelfAt SH p S4 * F)) → Calls Try.prog 23 #[.pointer (some ⟨p, 0, none⟩), .int .i64 0, .int .i64 6] W fun e w' => e = .returned (.int .i64 0) ∧ Hid (Same W w' ∧ Sat w' (X * (shelfAt SH p S5 * F))) from fun X W h => mark_to (n := 6) (d := 0) HA.out.2.2.2.2.2.2.2.2.2.2.2.2.1 (by decide) (by decide) (by decide) HA.out.2.2.2.2.2.2.2.1 X W h)
  have HMD0 := Lib.hid (show ∀ X W, Sat W (X * (shelfAt SH p S2 * F)) → _ from fun X W h => marked_to (d := 0) (a := 8) HA.out.2.2.2.2.2.2.2.2.2.2.1 (by decide) (by decide) HA.out.2.2.2.2.1 X W h)
  have HMD6 := Lib.hid (show ∀ X W, Sat W (X * (shelfAt SH p S5 * F)) → _ from fun X W h => marked_to (d := 0) (a := 8) HA.out.2.2.2.2.2.2.2.2.2.2.2.2.2 (by decide) (by decide) HA.out.2.2.2.2.2.2.2.2.1 X W h)
  have HMB := Lib.hid (show ∀ X W, Sat W (X * (shelfAt SH p S5 * F)) → Calls Try.prog 23 #[.pointer (some ⟨p, 0, none⟩), .int .i64 0, .int .i64 0] W fun e w' => e = .returned (.int .i64 1) ∧ Hid (Same W w' ∧ Sat w' (X * (shelfAt SH p S5 * F))) from fun X W h => (mark_bad p S5 (X * F) W (h.perm (star_left_comm _ _ _))).mono fun e w' h' => ⟨h'.1, h'.2.out.1, h'.2.out.2.perm (star_left_comm _ _ _)⟩)
  have HS27 := Lib.hid (show ∀ W, Calls Try.prog 13 #[.int .i64 27] W fun e w' => e = .returned (.int .i64 2) ∧ W = w' from fun W => size_any 27 (by decide) (by decide) W)
  have HS00 := Lib.hid (show ∀ W, Calls Try.prog 13 #[.int .i64 0] W fun e w' => e = .returned (.int .i64 1) ∧ W = w' from fun W => size_any 0 (by decide) (by decide) W)
  have HSN := Lib.hid (fun W => size_neg W)
  go_upto_region 15 with (first
    | (go_at_call 24; (with_reducible refine (HMD0.out _ _ H1.out.2).mono ?_); rintro e w11 ⟨rfl, hx⟩; replace H1 := Lib.hid (And.intro (H1.out.1.trans hx.out.1) hx.out.2); clear hx HMD0)
    | (go_at_call 23; (with_reducible refine (HMK4.out _ _ H1.out.2).mono ?_); rintro e w12 ⟨rfl, hx⟩; replace H1 := Lib.hid (And.intro (H1.out.1.trans hx.out.1) hx.out.2); clear hx HMK4)
    | (go_at_call 23; (with_reducible refine (HMK5.out _ _ H1.out.2).mono ?_); rintro e w13 ⟨rfl, hx⟩; replace H1 := Lib.hid (And.intro (H1.out.1.trans hx.out.1) hx.out.2); clear hx HMK5)
    | (go_at_call 23; (with_reducible refine (HMK6.out _ _ H1.out.2).mono ?_); rintro e w14 ⟨rfl, hx⟩; replace H1 := Lib.hid (And.intro (H1.out.1.trans hx.out.1) hx.out.2); clear hx HMK6)
    | (go_at_call 24; (with_reducible refine (HMD6.out _ _ H1.out.2).mono ?_); rintro e w15 ⟨rfl, hx⟩; replace H1 := Lib.hid (And.intro (H1.out.1.trans hx.out.1) hx.out.2); clear hx HMD6))
  obtain ⟨⟨d0, d1, d2, d3, ld⟩, ⟨g0', g1', g2', g3', lg⟩, ⟨a0, a1, a2, a3, la⟩, z0, z1, z2, z3, lz⟩ := e3_cells H1.out.2
  go_wp2_with (first
    | (go_at_call 23; (with_reducible refine (HMB.out _ _ H1.out.2).mono ?_); rintro e w16 ⟨rfl, hx⟩; replace H1 := Lib.hid (And.intro (H1.out.1.trans hx.out.1) hx.out.2); clear hx; clear d0 d1 d2 d3 ld g0' g1' g2' g3' lg a0 a1 a2 a3 la z0 z1 z2 z3 lz; obtain ⟨⟨d0, d1, d2, d3, ld⟩, ⟨g0', g1', g2', g3', lg⟩, ⟨a0, a1, a2, a3, la⟩, z0, z1, z2, z3, lz⟩ := e3_cells H1.out.2)
    | (go_at_call 25; refine (HTX.out 27 (by decide) (by decide) _ _ H1.out.2).mono ?_; rintro e w17 ⟨rfl, hx⟩; replace H1 := Lib.hid (And.intro (H1.out.1.trans hx.out.1) hx.out.2); clear hx; clear d0 d1 d2 d3 ld g0' g1' g2' g3' lg a0 a1 a2 a3 la z0 z1 z2 z3 lz; obtain ⟨⟨d0, d1, d2, d3, ld⟩, ⟨g0', g1', g2', g3', lg⟩, ⟨a0, a1, a2, a3, la⟩, z0, z1, z2, z3, lz⟩ := e3_cells H1.out.2)
    | (go_at_call 14; refine (same18_any _ _ [strB rA, strB (textL 27)] [strB rA, strB (textL 27)] _ (e3_strs (H1.out.2.allocKeep _)) (pair_strs _ _ _) (by decide)).mono ?_; rintro e w18 ⟨rfl, hb⟩; replace H1 := Lib.hid (And.intro ((H1.out.1.alloc _).below hb) ((H1.out.2.allocKeep _).below hb)); clear hb)
    | (go_at_call 13; (with_reducible refine (HS27.out _).mono ?_); rintro e w' ⟨rfl, rfl⟩)
    | (go_at_call 13; (with_reducible refine (HS00.out _).mono ?_); rintro e w' ⟨rfl, rfl⟩)
    | (go_at_call 13; (with_reducible refine (HSN.out _).mono ?_); rintro e w' ⟨rfl, rfl⟩)
    | fail)
  go_ret
  exact ⟨rfl, H1.out.1, H1.out.2.right.right⟩
end Go.Proofs.Ytbegomjbakidmaa
