import Derived.Test.YtmcclbiaoeilkaaGreatP07
import Derived.Test.YtmcclbiaoeilkaaGreatP04
import Derived.Deep.Cut
import Derived.Deep.DeepCutAuto
/- Part 8 of a proof; the last part says what is proved. -/
namespace Go.Proofs.YtmcclbiaoeilkaaGreat
open Go.RowKit Go.Sl Go.ChangeMaps
abbrev sizeA (c : CfgM) : Array Value := #[.int .i64 c.log, .int .i64 c.image, .int .i64 c.image, .int .i64 c.rows]
structure NumSt (w1 : World) (c : CfgM) (x : Int) (m : Nat) (n i : Value) (wr : World) : Prop where
  st : wr = w1 ∧ ∃ k : Nat, k ≤ m ∧ i = .int .i64 k ∧ n = .int .i64 (x + psum c k)
set_option maxHeartbeats 1000000 in
theorem number_neg (p : Nat) (S : ShelfM) (F : HProp) (a : PlaceM) (w : World) (hS : Sat w (shelfAt SH p S * F)) (h : S.state a.disk = 0 ∨ a.area < 1 ∨ 4 < a.area) :
    Calls Tryz.prog 90 #[.pointer (some ⟨p, 0, none⟩), .agg (plA a)] w fun e w' => e = .returned (.int .i64 (-1)) ∧ Below w.heap.size w w' := by
  have hst := fun o => state_any p S F a.disk (w.alloc o) (hS.allocKeep o)
  have HST := Lib.hid (hst (.cells (plA a) TPl))
  clear hst hS
  generalize S.state a.disk = st at *
  by_cases h0 : st = 0
  · subst h0
    clear h
    go_enter Tryz.func90, Tryz.ntmps90
    go_wp2_with (go_at_call 36; refine HST.out.mono ?_; rintro e w' ⟨rfl, rfl⟩)
    go_ret
    exact ⟨rfl, (Below.refl _ _).alloc (Nat.le_refl _) _⟩
  · have hb : (st == 0) = false := by simp [h0]
    by_cases h1 : a.area < 1
    · have hb1 : decide (a.area < 1) = true := decide_eq_true h1
      clear h h0 h1
      go_enter Tryz.func90, Tryz.ntmps90
      go_wp2_with (go_at_call 36; refine HST.out.mono ?_; rintro e w' ⟨rfl, rfl⟩)
      go_ret
      exact ⟨rfl, (Below.refl _ _).alloc (Nat.le_refl _) _⟩
    · have hb1 : decide (a.area < 1) = false := decide_eq_false h1
      have hb2 : decide (4 < a.area) = true := decide_eq_true (by omega)
      clear h h0 h1
      go_enter Tryz.func90, Tryz.ntmps90
      go_wp2_with (go_at_call 36; refine HST.out.mono ?_; rintro e w' ⟨rfl, rfl⟩)
      go_ret
      exact ⟨rfl, (Below.refl _ _).alloc (Nat.le_refl _) _⟩
set_option maxHeartbeats 2000000 in
theorem number_area (p : Nat) (S : ShelfM) (F : HProp) (d ix : Int) (m : Nat) (hm : m < 4) (w : World) (hS : Sat w (shelfAt SH p S * F)) (h : S.state d ≠ 0) :
    Calls Tryz.prog 90 #[.pointer (some ⟨p, 0, none⟩), .agg (plA ⟨d, (m : Int) + 1, ix⟩)] w fun e w' =>
      e = .returned (.int .i64 (if ix < 0 ∨ S.cfg.size ((m : Int) + 1) ≤ ix then -1 else ix + S.cfg.base ((m : Int) + 1))) ∧ Below w.heap.size w w' := by
  have hwf := shelfAt_wf hS
  have hst := fun o => state_any p S F d (w.alloc o) (hS.allocKeep o)
  have HST := Lib.hid (hst (.cells (plA ⟨d, (m : Int) + 1, ix⟩) TPl))
  obtain ⟨vb, vi, ps, qs, ⟨_, h1, h2⟩, hs⟩ := shelfAt_iff.1 hS
  obtain ⟨⟨q6, q7, q8, q9, q10⟩, hp, hfp, hra⟩ := shelf_cells hs
  have c0 := hra 0 _ rfl
  have c1 := hra 1 _ rfl
  have c2 := hra 2 _ rfl
  have c3 := hra 3 _ rfl
  have c4 := hra 4 _ rfl
  have c5 := hra 5 _ rfl
  simp only [Nat.zero_add] at c0 c1 c2 c3 c4 c5
  have hlog := hwf.cfg.log
  have himg := hwf.cfg.image
  have hrow := hwf.cfg.rows
  have hb : (S.state d == 0) = false := by simp [h]
  generalize S.state d = st at *
  generalize S.cfg = c at *
  clear hs hS hfp hra h1 h2 q6 q7 q8 q9 q10 h hwf hst
  rcases (show m = 0 ∨ m = 1 ∨ m = 2 ∨ m = 3 by omega) with rfl | rfl | rfl | rfl
  · have hsz : c.size ((0 : Nat) + 1 : Int) = c.log := rfl
    have hbs : c.base ((0 : Nat) + 1 : Int) = 0 := rfl
    rw [hsz, hbs]
    clear hsz hbs
    by_cases hx : ix < 0
    · have hx1 : decide (ix < 0) = true := decide_eq_true hx
      rw [if_pos (.inl hx)]
      clear hx
      go_enter Tryz.func90, Tryz.ntmps90
      go_upto_region 4 with (first
        | (go_at_call 36; refine HST.out.mono ?_; rintro e w' ⟨rfl, rfl⟩)
        | (go_at_call 84; refine (sizes_any c _).mono ?_; rintro e w1 ⟨rfl, hb1⟩))
      have hA := (((Sat.old w).alloc (.cells (plA ⟨d, 1, ix⟩) TPl)).below hb1).alloc (.cells (sizeA c) 125)
      have hSm := (((Same.refl w).alloc (.cells (plA ⟨d, 1, ix⟩) TPl)).below hb1).alloc (.cells (sizeA c) 125)
      generalize w1.alloc (.cells (sizeA c) 125) = W at hA hSm ⊢
      generalize w1.heap.size = B1 at hA ⊢
      generalize w.heap.size = B0 at hA ⊢
      clear hb1 c0 c1 c2 c3 c4 c5
      have d0 : W.cell? ⟨B0, 0, none⟩ = some (.int .i64 d) := cells_at hA.right.block 0
      have d1 : W.cell? ⟨B0, 1, none⟩ = some (.int .i64 1) := cells_at hA.right.block 1
      have d2 : W.cell? ⟨B0, 2, none⟩ = some (.int .i64 ix) := cells_at hA.right.block 2
      have e0 : W.cell? ⟨B1, 0, none⟩ = some (.int .i64 c.log) := cells_at hA.block 0
      have e1 : W.cell? ⟨B1, 1, none⟩ = some (.int .i64 c.image) := cells_at hA.block 1
      have e2 : W.cell? ⟨B1, 2, none⟩ = some (.int .i64 c.image) := cells_at hA.block 2
      have e3 : W.cell? ⟨B1, 3, none⟩ = some (.int .i64 c.rows) := cells_at hA.block 3
      have HA := Lib.hid hA
      have HSM := Lib.hid hSm
      clear hA hSm
      go_quiet (fail)
      go_wp2
      go_ret
      exact ⟨rfl, (HSM.out.drewN _).below_of (HA.out.drewN _).right⟩
    · have hx1 : decide (ix < 0) = false := decide_eq_false hx
      by_cases hy : c.log ≤ ix
      · have hy1 : decide (c.log ≤ ix) = true := decide_eq_true hy
        rw [if_pos (.inr hy)]
        clear hx hy
        go_enter Tryz.func90, Tryz.ntmps90
        go_upto_region 4 with (first
          | (go_at_call 36; refine HST.out.mono ?_; rintro e w' ⟨rfl, rfl⟩)
          | (go_at_call 84; refine (sizes_any c _).mono ?_; rintro e w1 ⟨rfl, hb1⟩))
        have hA := (((Sat.old w).alloc (.cells (plA ⟨d, 1, ix⟩) TPl)).below hb1).alloc (.cells (sizeA c) 125)
        have hSm := (((Same.refl w).alloc (.cells (plA ⟨d, 1, ix⟩) TPl)).below hb1).alloc (.cells (sizeA c) 125)
        generalize w1.alloc (.cells (sizeA c) 125) = W at hA hSm ⊢
        generalize w1.heap.size = B1 at hA ⊢
        generalize w.heap.size = B0 at hA ⊢
        clear hb1 c0 c1 c2 c3 c4 c5
        have d0 : W.cell? ⟨B0, 0, none⟩ = some (.int .i64 d) := cells_at hA.right.block 0
        have d1 : W.cell? ⟨B0, 1, none⟩ = some (.int .i64 1) := cells_at hA.right.block 1
        have d2 : W.cell? ⟨B0, 2, none⟩ = some (.int .i64 ix) := cells_at hA.right.block 2
        have e0 : W.cell? ⟨B1, 0, none⟩ = some (.int .i64 c.log) := cells_at hA.block 0
        have e1 : W.cell? ⟨B1, 1, none⟩ = some (.int .i64 c.image) := cells_at hA.block 1
        have e2 : W.cell? ⟨B1, 2, none⟩ = some (.int .i64 c.image) := cells_at hA.block 2
        have e3 : W.cell? ⟨B1, 3, none⟩ = some (.int .i64 c.rows) := cells_at hA.block 3
        have HA := Lib.hid hA
        have HSM := Lib.hid hSm
        clear hA hSm
        go_quiet (fail)
        go_wp2
        go_ret
        exact ⟨rfl, (HSM.out.drewN _).below_of (HA.out.drewN _).right⟩
      · have hy1 : decide (c.log ≤ ix) = false := decide_eq_false hy
        rw [if_neg (by rintro (h | h); exact hx h; exact hy h)]
        have hx2 : 0 ≤ ix := by omega
        have hy2 : ix ≤ 65536 := by omega
        clear hx hy
        go_enter Tryz.func90, Tryz.ntmps90
        go_upto_region 4 with (first
          | (go_at_call 36; refine HST.out.mono ?_; rintro e w' ⟨rfl, rfl⟩)
          | (go_at_call 84; refine (sizes_any c _).mono ?_; rintro e w1 ⟨rfl, hb1⟩))
        have hA := (((Sat.old w).alloc (.cells (plA ⟨d, 1, ix⟩) TPl)).below hb1).alloc (.cells (sizeA c) 125)
        have hSm := (((Same.refl w).alloc (.cells (plA ⟨d, 1, ix⟩) TPl)).below hb1).alloc (.cells (sizeA c) 125)
        generalize w1.alloc (.cells (sizeA c) 125) = W at hA hSm ⊢
        generalize w1.heap.size = B1 at hA ⊢
        generalize w.heap.size = B0 at hA ⊢
        clear hb1 c0 c1 c2 c3 c4 c5
        have d0 : W.cell? ⟨B0, 0, none⟩ = some (.int .i64 d) := cells_at hA.right.block 0
        have d1 : W.cell? ⟨B0, 1, none⟩ = some (.int .i64 1) := cells_at hA.right.block 1
        have d2 : W.cell? ⟨B0, 2, none⟩ = some (.int .i64 ix) := cells_at hA.right.block 2
        have e0 : W.cell? ⟨B1, 0, none⟩ = some (.int .i64 c.log) := cells_at hA.block 0
        have e1 : W.cell? ⟨B1, 1, none⟩ = some (.int .i64 c.image) := cells_at hA.block 1
        have e2 : W.cell? ⟨B1, 2, none⟩ = some (.int .i64 c.image) := cells_at hA.block 2
        have e3 : W.cell? ⟨B1, 3, none⟩ = some (.int .i64 c.rows) := cells_at hA.block 3
        have HA := Lib.hid hA
        have HSM := Lib.hid hSm
        clear hA hSm
        go_quiet (fail)
        go_wp2
        go_loopw [6, 8, 49] (fun n _ i wr => NumSt (W.drewN nq) c ix 0 n i wr) (fun _ _ i _ => 0 - (intOf i).toNat)
        case atStart => exact ⟨rfl, 0, by omega, rfl, by simp [psum]⟩
        case round =>
          obtain ⟨rfl, k, hk, rfl, rfl⟩ := hrel.st
          clear hrel
          rcases (show k = 0 by omega) with rfl
          · have hps : psum c 0 = 0 := rfl
            rw [hps]; clear hps
            go_wp2
            go_ret
            exact ⟨rfl, (HSM.out.drewN _).below_of (HA.out.drewN _).right⟩
  · have hsz : c.size ((1 : Nat) + 1 : Int) = c.image := rfl
    have hbs : c.base ((1 : Nat) + 1 : Int) = c.log := rfl
    rw [hsz, hbs]
    clear hsz hbs
    by_cases hx : ix < 0
    · have hx1 : decide (ix < 0) = true := decide_eq_true hx
      rw [if_pos (.inl hx)]
      clear hx
      go_enter Tryz.func90, Tryz.ntmps90
      go_upto_region 4 with (first
        | (go_at_call 36; refine HST.out.mono ?_; rintro e w' ⟨rfl, rfl⟩)
        | (go_at_call 84; refine (sizes_any c _).mono ?_; rintro e w1 ⟨rfl, hb1⟩))
      have hA := (((Sat.old w).alloc (.cells (plA ⟨d, 2, ix⟩) TPl)).below hb1).alloc (.cells (sizeA c) 125)
      have hSm := (((Same.refl w).alloc (.cells (plA ⟨d, 2, ix⟩) TPl)).below hb1).alloc (.cells (sizeA c) 125)
      generalize w1.alloc (.cells (sizeA c) 125) = W at hA hSm ⊢
      generalize w1.heap.size = B1 at hA ⊢
      generalize w.heap.size = B0 at hA ⊢
      clear hb1 c0 c1 c2 c3 c4 c5
      have d0 : W.cell? ⟨B0, 0, none⟩ = some (.int .i64 d) := cells_at hA.right.block 0
      have d1 : W.cell? ⟨B0, 1, none⟩ = some (.int .i64 2) := cells_at hA.right.block 1
      have d2 : W.cell? ⟨B0, 2, none⟩ = some (.int .i64 ix) := cells_at hA.right.block 2
      have e0 : W.cell? ⟨B1, 0, none⟩ = some (.int .i64 c.log) := cells_at hA.block 0
      have e1 : W.cell? ⟨B1, 1, none⟩ = some (.int .i64 c.image) := cells_at hA.block 1
      have e2 : W.cell? ⟨B1, 2, none⟩ = some (.int .i64 c.image) := cells_at hA.block 2
      have e3 : W.cell? ⟨B1, 3, none⟩ = some (.int .i64 c.rows) := cells_at hA.block 3
      have HA := Lib.hid hA
      have HSM := Lib.hid hSm
      clear hA hSm
      go_quiet (fail)
      go_wp2
      go_ret
      exact ⟨rfl, (HSM.out.drewN _).below_of (HA.out.drewN _).right⟩
    · have hx1 : decide (ix < 0) = false := decide_eq_false hx
      by_cases hy : c.image ≤ ix
      · have hy1 : decide (c.image ≤ ix) = true := decide_eq_true hy
        rw [if_pos (.inr hy)]
        clear hx hy
        go_enter Tryz.func90, Tryz.ntmps90
        go_upto_region 4 with (first
          | (go_at_call 36; refine HST.out.mono ?_; rintro e w' ⟨rfl, rfl⟩)
          | (go_at_call 84; refine (sizes_any c _).mono ?_; rintro e w1 ⟨rfl, hb1⟩))
        have hA := (((Sat.old w).alloc (.cells (plA ⟨d, 2, ix⟩) TPl)).below hb1).alloc (.cells (sizeA c) 125)
        have hSm := (((Same.refl w).alloc (.cells (plA ⟨d, 2, ix⟩) TPl)).below hb1).alloc (.cells (sizeA c) 125)
        generalize w1.alloc (.cells (sizeA c) 125) = W at hA hSm ⊢
        generalize w1.heap.size = B1 at hA ⊢
        generalize w.heap.size = B0 at hA ⊢
        clear hb1 c0 c1 c2 c3 c4 c5
        have d0 : W.cell? ⟨B0, 0, none⟩ = some (.int .i64 d) := cells_at hA.right.block 0
        have d1 : W.cell? ⟨B0, 1, none⟩ = some (.int .i64 2) := cells_at hA.right.block 1
        have d2 : W.cell? ⟨B0, 2, none⟩ = some (.int .i64 ix) := cells_at hA.right.block 2
        have e0 : W.cell? ⟨B1, 0, none⟩ = some (.int .i64 c.log) := cells_at hA.block 0
        have e1 : W.cell? ⟨B1, 1, none⟩ = some (.int .i64 c.image) := cells_at hA.block 1
        have e2 : W.cell? ⟨B1, 2, none⟩ = some (.int .i64 c.image) := cells_at hA.block 2
        have e3 : W.cell? ⟨B1, 3, none⟩ = some (.int .i64 c.rows) := cells_at hA.block 3
        have HA := Lib.hid hA
        have HSM := Lib.hid hSm
        clear hA hSm
        go_quiet (fail)
        go_wp2
        go_ret
        exact ⟨rfl, (HSM.out.drewN _).below_of (HA.out.drewN _).right⟩
      · have hy1 : decide (c.image ≤ ix) = false := decide_eq_false hy
        rw [if_neg (by rintro (h | h); exact hx h; exact hy h)]
        have hx2 : 0 ≤ ix := by omega
        have hy2 : ix ≤ 65536 := by omega
        clear hx hy
        go_enter Tryz.func90, Tryz.ntmps90
        go_upto_region 4 with (first
          | (go_at_call 36; refine HST.out.mono ?_; rintro e w' ⟨rfl, rfl⟩)
          | (go_at_call 84; refine (sizes_any c _).mono ?_; rintro e w1 ⟨rfl, hb1⟩))
        have hA := (((Sat.old w).alloc (.cells (plA ⟨d, 2, ix⟩) TPl)).below hb1).alloc (.cells (sizeA c) 125)
        have hSm := (((Same.refl w).alloc (.cells (plA ⟨d, 2, ix⟩) TPl)).below hb1).alloc (.cells (sizeA c) 125)
        generalize w1.alloc (.cells (sizeA c) 125) = W at hA hSm ⊢
        generalize w1.heap.size = B1 at hA ⊢
        generalize w.heap.size = B0 at hA ⊢
        clear hb1 c0 c1 c2 c3 c4 c5
        have d0 : W.cell? ⟨B0, 0, none⟩ = some (.int .i64 d) := cells_at hA.right.block 0
        have d1 : W.cell? ⟨B0, 1, none⟩ = some (.int .i64 2) := cells_at hA.right.block 1
        have d2 : W.cell? ⟨B0, 2, none⟩ = some (.int .i64 ix) := cells_at hA.right.block 2
        have e0 : W.cell? ⟨B1, 0, none⟩ = some (.int .i64 c.log) := cells_at hA.block 0
        have e1 : W.cell? ⟨B1, 1, none⟩ = some (.int .i64 c.image) := cells_at hA.block 1
        have e2 : W.cell? ⟨B1, 2, none⟩ = some (.int .i64 c.image) := cells_at hA.block 2
        have e3 : W.cell? ⟨B1, 3, none⟩ = some (.int .i64 c.rows) := cells_at hA.block 3
        have HA := Lib.hid hA
        have HSM := Lib.hid hSm
        clear hA hSm
        go_quiet (fail)
        go_wp2
        go_loopw [6, 8, 49] (fun n _ i wr => NumSt (W.drewN nq) c ix 1 n i wr) (fun _ _ i _ => 1 - (intOf i).toNat)
        case atStart => exact ⟨rfl, 0, by omega, rfl, by simp [psum]⟩
        case round =>
          obtain ⟨rfl, k, hk, rfl, rfl⟩ := hrel.st
          clear hrel
          rcases (show k = 0 ∨ k = 1 by omega) with rfl | rfl
          · have hps : psum c 0 = 0 := rfl
            rw [hps]; clear hps
            try simp only [Int.add_zero]
            go_wp2
            go_roundw
            case rel => exact ⟨rfl, 1, by omega, rfl, by show _ = Value.int .i64 (ix + (c.log)); first | rfl | (congr 1; omega)⟩
            case measure => simp [intOf]
          · have hps : psum c 1 = c.log := rfl
            rw [hps]; clear hps
            go_wp2
            go_ret
            exact ⟨rfl, (HSM.out.drewN _).below_of (HA.out.drewN _).right⟩
  · have hsz : c.size ((2 : Nat) + 1 : Int) = c.image := rfl
    have hbs : c.base ((2 : Nat) + 1 : Int) = c.log + c.image := rfl
    rw [hsz, hbs]
    clear hsz hbs
    by_cases hx : ix < 0
    · have hx1 : decide (ix < 0) = true := decide_eq_true hx
      rw [if_pos (.inl hx)]
      clear hx
      go_enter Tryz.func90, Tryz.ntmps90
      go_upto_region 4 with (first
        | (go_at_call 36; refine HST.out.mono ?_; rintro e w' ⟨rfl, rfl⟩)
        | (go_at_call 84; refine (sizes_any c _).mono ?_; rintro e w1 ⟨rfl, hb1⟩))
      have hA := (((Sat.old w).alloc (.cells (plA ⟨d, 3, ix⟩) TPl)).below hb1).alloc (.cells (sizeA c) 125)
      have hSm := (((Same.refl w).alloc (.cells (plA ⟨d, 3, ix⟩) TPl)).below hb1).alloc (.cells (sizeA c) 125)
      generalize w1.alloc (.cells (sizeA c) 125) = W at hA hSm ⊢
      generalize w1.heap.size = B1 at hA ⊢
      generalize w.heap.size = B0 at hA ⊢
      clear hb1 c0 c1 c2 c3 c4 c5
      have d0 : W.cell? ⟨B0, 0, none⟩ = some (.int .i64 d) := cells_at hA.right.block 0
      have d1 : W.cell? ⟨B0, 1, none⟩ = some (.int .i64 3) := cells_at hA.right.block 1
      have d2 : W.cell? ⟨B0, 2, none⟩ = some (.int .i64 ix) := cells_at hA.right.block 2
      have e0 : W.cell? ⟨B1, 0, none⟩ = some (.int .i64 c.log) := cells_at hA.block 0
      have e1 : W.cell? ⟨B1, 1, none⟩ = some (.int .i64 c.image) := cells_at hA.block 1
      have e2 : W.cell? ⟨B1, 2, none⟩ = some (.int .i64 c.image) := cells_at hA.block 2
      have e3 : W.cell? ⟨B1, 3, none⟩ = some (.int .i64 c.rows) := cells_at hA.block 3
      have HA := Lib.hid hA
      have HSM := Lib.hid hSm
      clear hA hSm
      go_quiet (fail)
      go_wp2
      go_ret
      exact ⟨rfl, (HSM.out.drewN _).below_of (HA.out.drewN _).right⟩
    · have hx1 : decide (ix < 0) = false := decide_eq_false hx
      by_cases hy : c.image ≤ ix
      · have hy1 : decide (c.image ≤ ix) = true := decide_eq_true hy
        rw [if_pos (.inr hy)]
        clear hx hy
        go_enter Tryz.func90, Tryz.ntmps90
        go_upto_region 4 with (first
          | (go_at_call 36; refine HST.out.mono ?_; rintro e w' ⟨rfl, rfl⟩)
          | (go_at_call 84; refine (sizes_any c _).mono ?_; rintro e w1 ⟨rfl, hb1⟩))
        have hA := (((Sat.old w).alloc (.cells (plA ⟨d, 3, ix⟩) TPl)).below hb1).alloc (.cells (sizeA c) 125)
        have hSm := (((Same.refl w).alloc (.cells (plA ⟨d, 3, ix⟩) TPl)).below hb1).alloc (.cells (sizeA c) 125)
        generalize w1.alloc (.cells (sizeA c) 125) = W at hA hSm ⊢
        generalize w1.heap.size = B1 at hA ⊢
        generalize w.heap.size = B0 at hA ⊢
        clear hb1 c0 c1 c2 c3 c4 c5
        have d0 : W.cell? ⟨B0, 0, none⟩ = some (.int .i64 d) := cells_at hA.right.block 0
        have d1 : W.cell? ⟨B0, 1, none⟩ = some (.int .i64 3) := cells_at hA.right.block 1
        have d2 : W.cell? ⟨B0, 2, none⟩ = some (.int .i64 ix) := cells_at hA.right.block 2
        have e0 : W.cell? ⟨B1, 0, none⟩ = some (.int .i64 c.log) := cells_at hA.block 0
        have e1 : W.cell? ⟨B1, 1, none⟩ = some (.int .i64 c.image) := cells_at hA.block 1
        have e2 : W.cell? ⟨B1, 2, none⟩ = some (.int .i64 c.image) := cells_at hA.block 2
        have e3 : W.cell? ⟨B1, 3, none⟩ = some (.int .i64 c.rows) := cells_at hA.block 3
        have HA := Lib.hid hA
        have HSM := Lib.hid hSm
        clear hA hSm
        go_quiet (fail)
        go_wp2
        go_ret
        exact ⟨rfl, (HSM.out.drewN _).below_of (HA.out.drewN _).right⟩
      · have hy1 : decide (c.image ≤ ix) = false := decide_eq_false hy
        rw [if_neg (by rintro (h | h); exact hx h; exact hy h)]
        have hx2 : 0 ≤ ix := by omega
        have hy2 : ix ≤ 65536 := by omega
        clear hx hy
        go_enter Tryz.func90, Tryz.ntmps90
        go_upto_region 4 with (first
          | (go_at_call 36; refine HST.out.mono ?_; rintro e w' ⟨rfl, rfl⟩)
          | (go_at_call 84; refine (sizes_any c _).mono ?_; rintro e w1 ⟨rfl, hb1⟩))
        have hA := (((Sat.old w).alloc (.cells (plA ⟨d, 3, ix⟩) TPl)).below hb1).alloc (.cells (sizeA c) 125)
        have hSm := (((Same.refl w).alloc (.cells (plA ⟨d, 3, ix⟩) TPl)).below hb1).alloc (.cells (sizeA c) 125)
        generalize w1.alloc (.cells (sizeA c) 125) = W at hA hSm ⊢
        generalize w1.heap.size = B1 at hA ⊢
        generalize w.heap.size = B0 at hA ⊢
        clear hb1 c0 c1 c2 c3 c4 c5
        have d0 : W.cell? ⟨B0, 0, none⟩ = some (.int .i64 d) := cells_at hA.right.block 0
        have d1 : W.cell? ⟨B0, 1, none⟩ = some (.int .i64 3) := cells_at hA.right.block 1
        have d2 : W.cell? ⟨B0, 2, none⟩ = some (.int .i64 ix) := cells_at hA.right.block 2
        have e0 : W.cell? ⟨B1, 0, none⟩ = some (.int .i64 c.log) := cells_at hA.block 0
        have e1 : W.cell? ⟨B1, 1, none⟩ = some (.int .i64 c.image) := cells_at hA.block 1
        have e2 : W.cell? ⟨B1, 2, none⟩ = some (.int .i64 c.image) := cells_at hA.block 2
        have e3 : W.cell? ⟨B1, 3, none⟩ = some (.int .i64 c.rows) := cells_at hA.block 3
        have HA := Lib.hid hA
        have HSM := Lib.hid hSm
        clear hA hSm
        go_quiet (fail)
        go_wp2
        go_loopw [6, 8, 49] (fun n _ i wr => NumSt (W.drewN nq) c ix 2 n i wr) (fun _ _ i _ => 2 - (intOf i).toNat)
        case atStart => exact ⟨rfl, 0, by omega, rfl, by simp [psum]⟩
        case round =>
          obtain ⟨rfl, k, hk, rfl, rfl⟩ := hrel.st
          clear hrel
          rcases (show k = 0 ∨ k = 1 ∨ k = 2 by omega) with rfl | rfl | rfl
          · have hps : psum c 0 = 0 := rfl
            rw [hps]; clear hps
            try simp only [Int.add_zero]
            go_wp2
            go_roundw
            case rel => exact ⟨rfl, 1, by omega, rfl, by show _ = Value.int .i64 (ix + (c.log)); first | rfl | (congr 1; omega)⟩
            case measure => simp [intOf]
          · have hps : psum c 1 = c.log := rfl
            rw [hps]; clear hps
            try simp only [Int.add_zero]
            go_wp2
            go_roundw
            case rel => exact ⟨rfl, 2, by omega, rfl, by show _ = Value.int .i64 (ix + (c.log + c.image)); first | rfl | (congr 1; omega)⟩
            case measure => simp [intOf]
          · have hps : psum c 2 = c.log + c.image := rfl
            rw [hps]; clear hps
            go_wp2
            go_ret
            exact ⟨rfl, (HSM.out.drewN _).below_of (HA.out.drewN _).right⟩
  · have hsz : c.size ((3 : Nat) + 1 : Int) = c.rows := rfl
    have hbs : c.base ((3 : Nat) + 1 : Int) = c.log + c.image + c.image := rfl
    rw [hsz, hbs]
    clear hsz hbs
    by_cases hx : ix < 0
    · have hx1 : decide (ix < 0) = true := decide_eq_true hx
      rw [if_pos (.inl hx)]
      clear hx
      go_enter Tryz.func90, Tryz.ntmps90
      go_upto_region 4 with (first
        | (go_at_call 36; refine HST.out.mono ?_; rintro e w' ⟨rfl, rfl⟩)
        | (go_at_call 84; refine (sizes_any c _).mono ?_; rintro e w1 ⟨rfl, hb1⟩))
      have hA := (((Sat.old w).alloc (.cells (plA ⟨d, 4, ix⟩) TPl)).below hb1).alloc (.cells (sizeA c) 125)
      have hSm := (((Same.refl w).alloc (.cells (plA ⟨d, 4, ix⟩) TPl)).below hb1).alloc (.cells (sizeA c) 125)
      generalize w1.alloc (.cells (sizeA c) 125) = W at hA hSm ⊢
      generalize w1.heap.size = B1 at hA ⊢
      generalize w.heap.size = B0 at hA ⊢
      clear hb1 c0 c1 c2 c3 c4 c5
      have d0 : W.cell? ⟨B0, 0, none⟩ = some (.int .i64 d) := cells_at hA.right.block 0
      have d1 : W.cell? ⟨B0, 1, none⟩ = some (.int .i64 4) := cells_at hA.right.block 1
      have d2 : W.cell? ⟨B0, 2, none⟩ = some (.int .i64 ix) := cells_at hA.right.block 2
      have e0 : W.cell? ⟨B1, 0, none⟩ = some (.int .i64 c.log) := cells_at hA.block 0
      have e1 : W.cell? ⟨B1, 1, none⟩ = some (.int .i64 c.image) := cells_at hA.block 1
      have e2 : W.cell? ⟨B1, 2, none⟩ = some (.int .i64 c.image) := cells_at hA.block 2
      have e3 : W.cell? ⟨B1, 3, none⟩ = some (.int .i64 c.rows) := cells_at hA.block 3
      have HA := Lib.hid hA
      have HSM := Lib.hid hSm
      clear hA hSm
      go_quiet (fail)
      go_wp2
      go_ret
      exact ⟨rfl, (HSM.out.drewN _).below_of (HA.out.drewN _).right⟩
    · have hx1 : decide (ix < 0) = false := decide_eq_false hx
      by_cases hy : c.rows ≤ ix
      · have hy1 : decide (c.rows ≤ ix) = true := decide_eq_true hy
        rw [if_pos (.inr hy)]
        clear hx hy
        go_enter Tryz.func90, Tryz.ntmps90
        go_upto_region 4 with (first
          | (go_at_call 36; refine HST.out.mono ?_; rintro e w' ⟨rfl, rfl⟩)
          | (go_at_call 84; refine (sizes_any c _).mono ?_; rintro e w1 ⟨rfl, hb1⟩))
        have hA := (((Sat.old w).alloc (.cells (plA ⟨d, 4, ix⟩) TPl)).below hb1).alloc (.cells (sizeA c) 125)
        have hSm := (((Same.refl w).alloc (.cells (plA ⟨d, 4, ix⟩) TPl)).below hb1).alloc (.cells (sizeA c) 125)
        generalize w1.alloc (.cells (sizeA c) 125) = W at hA hSm ⊢
        generalize w1.heap.size = B1 at hA ⊢
        generalize w.heap.size = B0 at hA ⊢
        clear hb1 c0 c1 c2 c3 c4 c5
        have d0 : W.cell? ⟨B0, 0, none⟩ = some (.int .i64 d) := cells_at hA.right.block 0
        have d1 : W.cell? ⟨B0, 1, none⟩ = some (.int .i64 4) := cells_at hA.right.block 1
        have d2 : W.cell? ⟨B0, 2, none⟩ = some (.int .i64 ix) := cells_at hA.right.block 2
        have e0 : W.cell? ⟨B1, 0, none⟩ = some (.int .i64 c.log) := cells_at hA.block 0
        have e1 : W.cell? ⟨B1, 1, none⟩ = some (.int .i64 c.image) := cells_at hA.block 1
        have e2 : W.cell? ⟨B1, 2, none⟩ = some (.int .i64 c.image) := cells_at hA.block 2
        have e3 : W.cell? ⟨B1, 3, none⟩ = some (.int .i64 c.rows) := cells_at hA.block 3
        have HA := Lib.hid hA
        have HSM := Lib.hid hSm
        clear hA hSm
        go_quiet (fail)
        go_wp2
        go_ret
        exact ⟨rfl, (HSM.out.drewN _).below_of (HA.out.drewN _).right⟩
      · have hy1 : decide (c.rows ≤ ix) = false := decide_eq_false hy
        rw [if_neg (by rintro (h | h); exact hx h; exact hy h)]
        have hx2 : 0 ≤ ix := by omega
        have hy2 : ix ≤ 65536 := by omega
        clear hx hy
        go_enter Tryz.func90, Tryz.ntmps90
        go_upto_region 4 with (first
          | (go_at_call 36; refine HST.out.mono ?_; rintro e w' ⟨rfl, rfl⟩)
          | (go_at_call 84; refine (sizes_any c _).mono ?_; rintro e w1 ⟨rfl, hb1⟩))
        have hA := (((Sat.old w).alloc (.cells (plA ⟨d, 4, ix⟩) TPl)).below hb1).alloc (.cells (sizeA c) 125)
        have hSm := (((Same.refl w).alloc (.cells (plA ⟨d, 4, ix⟩) TPl)).below hb1).alloc (.cells (sizeA c) 125)
        generalize w1.alloc (.cells (sizeA c) 125) = W at hA hSm ⊢
        generalize w1.heap.size = B1 at hA ⊢
        generalize w.heap.size = B0 at hA ⊢
        clear hb1 c0 c1 c2 c3 c4 c5
        have d0 : W.cell? ⟨B0, 0, none⟩ = some (.int .i64 d) := cells_at hA.right.block 0
        have d1 : W.cell? ⟨B0, 1, none⟩ = some (.int .i64 4) := cells_at hA.right.block 1
        have d2 : W.cell? ⟨B0, 2, none⟩ = some (.int .i64 ix) := cells_at hA.right.block 2
        have e0 : W.cell? ⟨B1, 0, none⟩ = some (.int .i64 c.log) := cells_at hA.block 0
        have e1 : W.cell? ⟨B1, 1, none⟩ = some (.int .i64 c.image) := cells_at hA.block 1
        have e2 : W.cell? ⟨B1, 2, none⟩ = some (.int .i64 c.image) := cells_at hA.block 2
        have e3 : W.cell? ⟨B1, 3, none⟩ = some (.int .i64 c.rows) := cells_at hA.block 3
        have HA := Lib.hid hA
        have HSM := Lib.hid hSm
        clear hA hSm
        go_quiet (fail)
        go_wp2
        go_loopw [6, 8, 49] (fun n _ i wr => NumSt (W.drewN nq) c ix 3 n i wr) (fun _ _ i _ => 3 - (intOf i).toNat)
        case atStart => exact ⟨rfl, 0, by omega, rfl, by simp [psum]⟩
        case round =>
          obtain ⟨rfl, k, hk, rfl, rfl⟩ := hrel.st
          clear hrel
          rcases (show k = 0 ∨ k = 1 ∨ k = 2 ∨ k = 3 by omega) with rfl | rfl | rfl | rfl
          · have hps : psum c 0 = 0 := rfl
            rw [hps]; clear hps
            try simp only [Int.add_zero]
            go_wp2
            go_roundw
            case rel => exact ⟨rfl, 1, by omega, rfl, by show _ = Value.int .i64 (ix + (c.log)); first | rfl | (congr 1; omega)⟩
            case measure => simp [intOf]
          · have hps : psum c 1 = c.log := rfl
            rw [hps]; clear hps
            try simp only [Int.add_zero]
            go_wp2
            go_roundw
            case rel => exact ⟨rfl, 2, by omega, rfl, by show _ = Value.int .i64 (ix + (c.log + c.image)); first | rfl | (congr 1; omega)⟩
            case measure => simp [intOf]
          · have hps : psum c 2 = c.log + c.image := rfl
            rw [hps]; clear hps
            try simp only [Int.add_zero]
            go_wp2
            go_roundw
            case rel => exact ⟨rfl, 3, by omega, rfl, by show _ = Value.int .i64 (ix + (c.log + c.image + c.image)); first | rfl | (congr 1; omega)⟩
            case measure => simp [intOf]
          · have hps : psum c 3 = c.log + c.image + c.image := rfl
            rw [hps]; clear hps
            go_wp2
            go_ret
            exact ⟨rfl, (HSM.out.drewN _).below_of (HA.out.drewN _).right⟩
theorem number_any (p : Nat) (S : ShelfM) (F : HProp) (a : PlaceM) (w : World) (hS : Sat w (shelfAt SH p S * F)) :
    Calls Tryz.prog 90 #[.pointer (some ⟨p, 0, none⟩), .agg (plA a)] w fun e w' => e = .returned (.int .i64 (S.number a)) ∧ Hid (Below w.heap.size w w') := by
  by_cases h : S.state a.disk = 0 ∨ a.area < 1 ∨ 4 < a.area
  · have e : S.number a = -1 := by unfold ShelfM.number; rw [if_pos (by rcases h with h | h | h; exact .inl h; exact .inr (.inl h); exact .inr (.inr (.inl h)))]
    rw [e]; exact number_neg p S F a w hS h
  · obtain ⟨d, ar, ix⟩ := a
    simp only at h
    obtain ⟨m, hm⟩ := Int.eq_ofNat_of_zero_le (show 0 ≤ ar - 1 by omega)
    obtain rfl : ar = (m : Int) + 1 := by omega
    have e : S.number ⟨d, (m : Int) + 1, ix⟩ = if ix < 0 ∨ S.cfg.size ((m : Int) + 1) ≤ ix then -1 else ix + S.cfg.base ((m : Int) + 1) := by
      unfold ShelfM.number
      by_cases hx : ix < 0 ∨ S.cfg.size ((m : Int) + 1) ≤ ix
      · rw [if_pos hx, if_pos (.inr (.inr (.inr hx)))]
      · rw [if_neg hx, if_neg (by simp only; omega)]
    rw [e]; exact number_area p S F d ix m (by omega) w hS (by omega)
end Go.Proofs.YtmcclbiaoeilkaaGreat
