/- UsageAddsUp: for every space that at most 80 operations build, the sums over all tenants are the numbers of volumes, of snapshots, and of their mapped blocks. Printed by bh.py. -/
import Derived.Test.YtmgcgdkndkibgaaGreatBd
namespace Go.Proofs.YtmgcgdkndkibgaaGreat
open Go.RowKit Go.Vol Go.Sl Go.ChangeMaps Go.ChangeShapes Go.WideShapes Go.ChangeAt

theorem tenN_cons (x : PartM) (L : List PartM) (t : Int) : (tenN (x :: L) t : Int) = (if x.tenant = t then 1 else 0) + (tenN L t : Int) := by
  unfold tenN
  rw [List.filter_cons]
  by_cases h : x.tenant = t
  · rw [if_pos h, if_pos (beq_iff_eq.2 h), List.length_cons]; omega
  · rw [if_neg h, if_neg (by simpa using h)]; omega
theorem sumU_cons (x : PartM) (L : List PartM) (t : Int) : sumU (x :: L) t = (if x.tenant = t then (cnt x.m : Int) else 0) + sumU L t := by
  unfold sumU
  rw [List.filter_cons]
  by_cases h : x.tenant = t
  · rw [if_pos h, if_pos (beq_iff_eq.2 h), List.map_cons, List.sum_cons]
  · rw [if_neg h, if_neg (by simpa using h)]; omega
theorem sumN_at {a v : Int} : ∀ n : Nat, 0 ≤ a → sumN n (fun c => if a = (c : Int) then v else 0) = if a < (n : Int) then v else 0
  | 0, h => by simp only [sumN]; rw [if_neg (by omega)]
  | n + 1, h => by
    simp only [sumN]
    rw [sumN_at n h]
    rcases Int.lt_trichotomy a (n : Int) with h1 | h1 | h1
    · rw [if_pos h1, if_neg (by omega), if_pos (by omega)]; omega
    · rw [if_neg (by omega), if_pos h1, if_pos (by omega)]; omega
    · rw [if_neg (by omega), if_neg (by omega), if_neg (by omega)]; omega
theorem tenN_all : ∀ L : List PartM, (∀ p ∈ L, p.WF) → sumN 16 (fun t => (tenN L (t : Int) : Int)) = L.length
  | [], _ => by rw [show (fun t : Nat => (tenN [] (t : Int) : Int)) = fun _ => 0 from rfl, sumN_zero]; rfl
  | x :: L, h => by
    have ht := (h x (by simp)).ten
    rw [sumN_congr (h := fun t => (if x.tenant = (t : Int) then 1 else 0) + (tenN L (t : Int) : Int)) 16 (fun i _ => tenN_cons x L i), sumN_add (fun t => if x.tenant = (t : Int) then 1 else 0) (fun t => (tenN L (t : Int) : Int)), sumN_at 16 ht.1, tenN_all L fun p hp => h p (by simp [hp]), if_pos (by have := ht.2; omega), List.length_cons]
    omega
theorem sumU_all : ∀ L : List PartM, (∀ p ∈ L, p.WF) → sumN 16 (fun t => sumU L (t : Int)) = cntL L
  | [], _ => by rw [show (fun t : Nat => sumU [] (t : Int)) = fun _ => 0 from rfl, sumN_zero]; rfl
  | x :: L, h => by
    have ht := (h x (by simp)).ten
    rw [sumN_congr (h := fun t => (if x.tenant = (t : Int) then (cnt x.m : Int) else 0) + sumU L (t : Int)) 16 (fun i _ => sumU_cons x L i), sumN_add (fun t => if x.tenant = (t : Int) then (cnt x.m : Int) else 0) (fun t => sumU L (t : Int)), sumN_at 16 ht.1, sumU_all L fun p hp => h p (by simp [hp]), if_pos (by have := ht.2; omega)]
    rfl
def arr4 (a b c d : Int) : Array Value := #[.int .i64 a, .int .i64 b, .int .i64 c, .int .i64 d]
def sumV (S : SpaceM) (k : Nat) : Int := sumN k fun t => (tenN S.vols (t : Int) : Int)
def sumSn (S : SpaceM) (k : Nat) : Int := sumN k fun t => (tenN S.snaps (t : Int) : Int)
def sumVB (S : SpaceM) (k : Nat) : Int := sumN k fun t => sumU S.vols (t : Int)
def sumSB (S : SpaceM) (k : Nat) : Int := sumN k fun t => sumU S.snaps (t : Int)
structure SumB (S : SpaceM) (k : Nat) : Prop where
  a : 0 ≤ sumV S k ∧ sumV S k ≤ 100000000000
  b : 0 ≤ sumSn S k ∧ sumSn S k ≤ 100000000000
  c : 0 ≤ sumVB S k ∧ sumVB S k ≤ 100000000000
  d : 0 ≤ sumSB S k ∧ sumSB S k ≤ 100000000000
theorem sum_b {S : SpaceM} (h : S.WF) {k : Nat} (hk : k ≤ 16) : SumB S k := by
  have hv := h.vlen
  have hs := h.slen
  have key : ∀ (g : Nat → Int), (∀ t : Nat, 0 ≤ g t ∧ g t ≤ 100000000) → 0 ≤ sumN k g ∧ sumN k g ≤ 100000000000 := by
    intro g hg
    have h1 := sumN_le (g := g) (b := 100000000) k fun i _ => hg i
    refine ⟨h1.1, Int.le_trans h1.2 ?_⟩
    have : (k : Int) ≤ 16 := by omega
    omega
  refine ⟨key _ fun t => ?_, key _ fun t => ?_, key _ fun t => ?_, key _ fun t => ?_⟩
  · have := tenN_le S.vols (t : Int); omega
  · have := tenN_le S.snaps (t : Int); omega
  · exact ⟨(use_bound S h t).1, (use_bound S h t).2.1⟩
  · exact ⟨(use_bound S h t).2.2.1, (use_bound S h t).2.2.2⟩
structure AdSt (W : World) (S : SpaceM) (g4 B6 B7 : Nat) (i : Value) (wr : World) : Prop where
  st : ∃ k : Nat, k ≤ 16 ∧ i = .int .i64 (k : Int) ∧ Hid (Same W wr ∧ Sat wr (pts B6 (.cells (arr4 (sumV S k) (sumSn S k) (sumVB S k) (sumSB S k)) 56 (0, 0)) * (pts B7 (.cells (arr4 0 0 0 0) 56 (0, 0)) * (pts g4 (.cells (useA (useOf S)) TUse (0, 0)) * old W))))
structure AvSt (W : World) (S : SpaceM) (B7 : Nat) (v : Value) (X : HProp) (i : Value) (wr : World) : Prop where
  st : ∃ k : Nat, k ≤ S.vols.length ∧ i = .int .i64 (k : Int) ∧ Hid (Same W wr ∧ Sat wr (pts B7 (.cells (arr4 (k : Int) 0 (cntL (S.vols.take k)) 0) 56 (0, 0)) * (ownAt TVi 3 v S.vols.length (S.vols.flatMap viE) * (X * old W))))
structure AsSt (W : World) (S : SpaceM) (B7 : Nat) (v : Value) (X : HProp) (i : Value) (wr : World) : Prop where
  st : ∃ k : Nat, k ≤ S.snaps.length ∧ i = .int .i64 (k : Int) ∧ Hid (Same W wr ∧ Sat wr (pts B7 (.cells (arr4 (S.vols.length : Int) (k : Int) (cntL S.vols) (cntL (S.snaps.take k))) 56 (0, 0)) * (ownAt TSi 4 v S.snaps.length (S.snaps.flatMap siE) * (X * old W))))
theorem arr_set (a b c d x : Int) : (arr4 a b c d).setIfInBounds 0 (.int .i64 x) = arr4 x b c d ∧ (arr4 a b c d).setIfInBounds 1 (.int .i64 x) = arr4 a x c d ∧ (arr4 a b c d).setIfInBounds 2 (.int .i64 x) = arr4 a b x d ∧ (arr4 a b c d).setIfInBounds 3 (.int .i64 x) = arr4 a b c x := ⟨rfl, rfl, rfl, rfl⟩
theorem eql_arr4 (a b c d : Int) (w : World) : (binOp .eql 56 (.agg (arr4 a b c d)) (.agg (arr4 a b c d))).run Tryz.prog w = .ok (.bool true) w := by
  have h1 : (a == a) = true := beq_self_eq_true a
  have h2 : (b == b) = true := beq_self_eq_true b
  have h3 : (c == c) = true := beq_self_eq_true c
  have h4 : (d == d) = true := beq_self_eq_true d
  obtain ⟨ti, hti, hz0, hts, hz2⟩ := info_parts info_i64
  have hc : Tryz.prog.cellsOf 3 = 1 := by kernel_rfl
  have key : (Op.equalIn 10000 56 (.agg (arr4 a b c d)) (.agg (arr4 a b c d))).run Tryz.prog w = .ok true w := by
    rw [show (10000 : Nat) = 9999 + 1 from rfl, run_equalIn_array w 9999 _ _ Tryz.underlying56 hti, hc, show List.range 4 = [0, 1, 2, 3] from rfl]
    unfold arr4
    simp only [Op.eqItems, Sem.run_bind]
    go_simp
  go_simp
set_option maxRecDepth 20000 in
set_option maxHeartbeats 8000000 in
theorem adds_law (sv : Value) (l : List VOp) (w : World) (hscr : ScrV w sv l) :
    Calls Tryz.prog 6 #[sv] w fun e w' => e = .returned (.bool true) ∧ Below w.heap.size w w' := by
  by_cases hl : l.length ≤ 80
  · have HN := Lib.hid (build_both sv l w hscr hl)
    have HWF := Lib.hid (runU_wf SpaceM.WF.new l)
    generalize runU SpaceM.new l = S at HN HWF
    clear hscr hl
    go_enter Tryz.func6, Tryz.ntmps6
    go_upto_region 4 with (go_at_call 9; refine HN.out.mono ?_; rintro e w1 ⟨p, va, vc, sa, sc, rfl, h1⟩)
    have hal := (Below.refl w1.heap.size w1).alloc (Nat.le_refl _) (.cells #[.slice va S.vols.length vc, .slice sa S.snaps.length sc] TRS)
    have HS := Lib.hid (h1.out.next hal)
    clear h1 hal HN
    generalize w1.alloc (.cells #[.slice va S.vols.length vc, .slice sa S.snaps.length sc] TRS) = W at HS ⊢
    generalize w1.heap.size = A at ⊢
    have H0 := Lib.hid (And.intro (((Same.refl W).alloc (.cells #[.int .i64 0, .int .i64 0, .int .i64 0, .int .i64 0] 56)).alloc (.cells #[.int .i64 0, .int .i64 0, .int .i64 0, .int .i64 0] 56)) (((Sat.old W).alloc (.cells #[.int .i64 0, .int .i64 0, .int .i64 0, .int .i64 0] 56)).alloc (.cells #[.int .i64 0, .int .i64 0, .int .i64 0, .int .i64 0] 56)))
    simp only [World.size_alloc] at H0
    go_upto_region 5 with (fail)
    have H1 := Lib.hid (show Same W ((W.alloc (.cells #[.int .i64 0, .int .i64 0, .int .i64 0, .int .i64 0] 56)).alloc (.cells #[.int .i64 0, .int .i64 0, .int .i64 0, .int .i64 0] 56)) ∧ Sat ((W.alloc (.cells #[.int .i64 0, .int .i64 0, .int .i64 0, .int .i64 0] 56)).alloc (.cells #[.int .i64 0, .int .i64 0, .int .i64 0, .int .i64 0] 56)) (pts W.heap.size (.cells (arr4 (sumV S 0) (sumSn S 0) (sumVB S 0) (sumSB S 0)) 56 (0, 0)) * (pts (W.heap.size + 1) (.cells (arr4 0 0 0 0) 56 (0, 0)) * old W)) from ⟨H0.out.1, H0.out.2.perm (show _ = pts W.heap.size (.cells #[.int .i64 0, .int .i64 0, .int .i64 0, .int .i64 0] 56 (0, 0)) * (pts (W.heap.size + 1) (.cells #[.int .i64 0, .int .i64 0, .int .i64 0, .int .i64 0] 56 (0, 0)) * old W) from by ac_rfl)⟩)
    clear H0
    generalize (W.alloc (.cells #[.int .i64 0, .int .i64 0, .int .i64 0, .int .i64 0] 56)).alloc (.cells #[.int .i64 0, .int .i64 0, .int .i64 0, .int .i64 0] 56) = W1 at H1 ⊢
    generalize W.heap.size + 1 = B7 at H1 ⊢
    generalize hB6 : W.heap.size = B6 at H1 ⊢
    have HB6 := Lib.hid hB6
    clear hB6
    go_wp2_with (go_at_call 11; refine (of_any p S W1 (HS.out.2.1.below (H1.out.1.below_of (P := pts B6 (.cells (arr4 (sumV S 0) (sumSn S 0) (sumVB S 0) (sumSB S 0)) 56 (0, 0)) * pts B7 (.cells (arr4 0 0 0 0) 56 (0, 0))) (H1.out.2.perm (by ac_rfl)))) HWF.out).mono ?_; rintro e w4 ⟨g4, rfl, h4⟩; have H4 := Lib.hid (show Same W w4 ∧ Sat w4 (pts B6 (.cells (arr4 (sumV S 0) (sumSn S 0) (sumVB S 0) (sumSB S 0)) 56 (0, 0)) * (pts B7 (.cells (arr4 0 0 0 0) 56 (0, 0)) * (pts g4 (.cells (useA (useOf S)) TUse (0, 0)) * old W))) from ⟨H1.out.1.trans h4.out.1, (sat_old h4.out.2 H1.out.2).perm (by ac_rfl)⟩); clear h4 H1)
    have HU := Lib.hid (use_bound S HWF.out)
    go_loopw [30] (fun i wr => AdSt W S g4 B6 B7 i wr) (fun i _ => 16 - (intOf i).toNat)
    case atStart => exact ⟨⟨0, Nat.zero_le _, rfl, H4.out⟩⟩
    case round =>
      clear H4
      obtain ⟨k, hk, rfl, HX⟩ := hrel.st
      clear hrel
      by_cases hlt : k < 16
      · have hltd : decide ((k : Int) < 16) = true := decide_eq_true (by omega)
        have hki : (k : Int) ≤ 16 := by omega
        have hwk : IntKind.i64.wrap ((k : Int) + 1) = (k : Int) + 1 := IntWalk.i64_in _ (by omega)
        obtain ⟨a0, a1⟩ := useA_cells HX.out.2.right.right hlt
        go_upto_region 8 with (fail)
        clear a0 a1
        have H2 := Lib.hid (show Same W (wr.alloc (.cells #[.int .i64 (useOf S k).1, .int .i64 (useOf S k).2] TUse)) ∧ Sat (wr.alloc (.cells #[.int .i64 (useOf S k).1, .int .i64 (useOf S k).2] TUse)) (pts B6 (.cells (arr4 (sumV S k) (sumSn S k) (sumVB S k) (sumSB S k)) 56 (0, 0)) * (pts wr.heap.size (.cells #[.int .i64 (useOf S k).1, .int .i64 (useOf S k).2] TUse (0, 0)) * (pts B7 (.cells (arr4 0 0 0 0) 56 (0, 0)) * (pts g4 (.cells (useA (useOf S)) TUse (0, 0)) * old W)))) from ⟨HX.out.1.alloc _, (HX.out.2.alloc (.cells #[.int .i64 (useOf S k).1, .int .i64 (useOf S k).2] TUse)).perm (by ac_rfl)⟩)
        clear HX
        generalize wr.alloc (.cells #[.int .i64 (useOf S k).1, .int .i64 (useOf S k).2] TUse) = W2 at H2 ⊢
        generalize wr.heap.size = m at H2 ⊢
        go_upto_region 9 with (go_at_call 13; refine (parts_any p S (k : Int) W2 (HS.out.2.1.below (H2.out.1.below_of (P := pts B6 (.cells (arr4 (sumV S k) (sumSn S k) (sumVB S k) (sumSB S k)) 56 (0, 0)) * (pts m (.cells #[.int .i64 (useOf S k).1, .int .i64 (useOf S k).2] TUse (0, 0)) * (pts B7 (.cells (arr4 0 0 0 0) 56 (0, 0)) * pts g4 (.cells (useA (useOf S)) TUse (0, 0))))) (H2.out.2.perm (by ac_rfl)))) HWF.out).mono ?_; rintro e w3 ⟨rfl, h3⟩)
        have H3 := Lib.hid (And.intro (H2.out.1.below h3) (H2.out.2.below h3))
        clear h3 H2
        have hs1 := sum_b HWF.out (k := k) hk
        have hs2 := sum_b HWF.out (k := k + 1) hlt
        have e0 := Lib.hid (show sumV S k + (tenN S.vols (k : Int) : Int) = sumV S (k + 1) from rfl)
        have hw0 : IntKind.i64.wrap (sumV S k + (tenN S.vols (k : Int) : Int)) = sumV S k + (tenN S.vols (k : Int) : Int) := IntWalk.i64_in _ (by rw [e0.out]; have := hs2.a; omega)
        have c0 : w3.cell? ⟨B6, 0, none⟩ = some (.int .i64 (sumV S k)) := cells_at H3.out.2.block 0
        have z0 := thawed_at H3.out.2.block 0
        go_upto_region 10 with (fail)
        have h5 := (H3.out.2.setCell (i := 0) (.int .i64 (sumV S k + (tenN S.vols (k : Int) : Int))))
        rw [(arr_set _ _ _ _ _).1] at h5
        have H4 := Lib.hid (And.intro (H3.out.1.setCell ⟨B6, 0, none⟩ (.int .i64 (sumV S k + (tenN S.vols (k : Int) : Int)))) h5)
        clear h5 c0 z0 hw0 H3
        generalize w3.setCell ⟨B6, 0, none⟩ (.int .i64 (sumV S k + (tenN S.vols (k : Int) : Int))) = w5 at H4 ⊢
        rw [e0.out] at H4
        clear w3; obtain ⟨w3, rfl⟩ : ∃ w3 : World, w3 = w5 := ⟨_, rfl⟩; have H3 := H4; clear H4 e0
        have e1 := Lib.hid (show sumSn S k + (tenN S.snaps (k : Int) : Int) = sumSn S (k + 1) from rfl)
        have hw1 : IntKind.i64.wrap (sumSn S k + (tenN S.snaps (k : Int) : Int)) = sumSn S k + (tenN S.snaps (k : Int) : Int) := IntWalk.i64_in _ (by rw [e1.out]; have := hs2.b; omega)
        have c1 : w3.cell? ⟨B6, 1, none⟩ = some (.int .i64 (sumSn S k)) := cells_at H3.out.2.block 1
        have z1 := thawed_at H3.out.2.block 1
        go_upto_region 11 with (fail)
        have h5 := (H3.out.2.setCell (i := 1) (.int .i64 (sumSn S k + (tenN S.snaps (k : Int) : Int))))
        rw [(arr_set _ _ _ _ _).2.1] at h5
        have H4 := Lib.hid (And.intro (H3.out.1.setCell ⟨B6, 1, none⟩ (.int .i64 (sumSn S k + (tenN S.snaps (k : Int) : Int)))) h5)
        clear h5 c1 z1 hw1 H3
        generalize w3.setCell ⟨B6, 1, none⟩ (.int .i64 (sumSn S k + (tenN S.snaps (k : Int) : Int))) = w5 at H4 ⊢
        rw [e1.out] at H4
        clear w3; obtain ⟨w3, rfl⟩ : ∃ w3 : World, w3 = w5 := ⟨_, rfl⟩; have H3 := H4; clear H4 e1
        have e2 := Lib.hid (show sumVB S k + (useOf S k).1 = sumVB S (k + 1) from rfl)
        have hw2 : IntKind.i64.wrap (sumVB S k + (useOf S k).1) = sumVB S k + (useOf S k).1 := IntWalk.i64_in _ (by rw [e2.out]; have := hs2.c; omega)
        have c2 : w3.cell? ⟨B6, 2, none⟩ = some (.int .i64 (sumVB S k)) := cells_at H3.out.2.block 2
        have z2 := thawed_at H3.out.2.block 2
        have d2 : w3.cell? ⟨m, 0, none⟩ = some (.int .i64 (useOf S k).1) := cells_at H3.out.2.right.block 0
        go_upto_region 12 with (fail)
        have h5 := (H3.out.2.setCell (i := 2) (.int .i64 (sumVB S k + (useOf S k).1)))
        rw [(arr_set _ _ _ _ _).2.2.1] at h5
        have H4 := Lib.hid (And.intro (H3.out.1.setCell ⟨B6, 2, none⟩ (.int .i64 (sumVB S k + (useOf S k).1))) h5)
        clear h5 c2 z2 hw2 H3 d2
        generalize w3.setCell ⟨B6, 2, none⟩ (.int .i64 (sumVB S k + (useOf S k).1)) = w5 at H4 ⊢
        rw [e2.out] at H4
        clear w3; obtain ⟨w3, rfl⟩ : ∃ w3 : World, w3 = w5 := ⟨_, rfl⟩; have H3 := H4; clear H4 e2
        have e3 := Lib.hid (show sumSB S k + (useOf S k).2 = sumSB S (k + 1) from rfl)
        have hw3 : IntKind.i64.wrap (sumSB S k + (useOf S k).2) = sumSB S k + (useOf S k).2 := IntWalk.i64_in _ (by rw [e3.out]; have := hs2.d; omega)
        have c3 : w3.cell? ⟨B6, 3, none⟩ = some (.int .i64 (sumSB S k)) := cells_at H3.out.2.block 3
        have z3 := thawed_at H3.out.2.block 3
        have d3 : w3.cell? ⟨m, 1, none⟩ = some (.int .i64 (useOf S k).2) := cells_at H3.out.2.right.block 1
        go_upto_region 13 with (fail)
        have h5 := (H3.out.2.setCell (i := 3) (.int .i64 (sumSB S k + (useOf S k).2)))
        rw [(arr_set _ _ _ _ _).2.2.2] at h5
        have H4 := Lib.hid (And.intro (H3.out.1.setCell ⟨B6, 3, none⟩ (.int .i64 (sumSB S k + (useOf S k).2))) h5)
        clear h5 c3 z3 hw3 H3 d3
        generalize w3.setCell ⟨B6, 3, none⟩ (.int .i64 (sumSB S k + (useOf S k).2)) = w5 at H4 ⊢
        rw [e3.out] at H4
        clear w3; obtain ⟨w3, rfl⟩ : ∃ w3 : World, w3 = w5 := ⟨_, rfl⟩; have H3 := H4; clear H4 e3
        go_wp2
        go_roundw
        case rel => exact ⟨⟨k + 1, hlt, rfl, H3.out.1, Sat.right (P := pts m (.cells #[.int .i64 (useOf S k).1, .int .i64 (useOf S k).2] TUse (0, 0))) (H3.out.2.perm (by ac_rfl))⟩⟩
        case measure => simp only [intOf]; omega
      · obtain rfl : k = 16 := by omega
        have hltd : decide (((16 : Nat) : Int) < 16) = false := decide_eq_false (by omega)
        have hnlt : ¬ ((16 : Nat) : Int) < 16 := by omega
        have H5 := Lib.hid (show Same W wr ∧ Sat wr (pts B7 (.cells (arr4 ((0 : Nat) : Int) 0 (cntL (S.vols.take 0)) 0) 56 (0, 0)) * (pts B6 (.cells (arr4 (S.vols.length : Int) (S.snaps.length : Int) (cntL S.vols) (cntL S.snaps)) 56 (0, 0)) * (pts g4 (.cells (useA (useOf S)) TUse (0, 0)) * old W))) from ⟨HX.out.1, by
          have h := HX.out.2
          unfold sumV sumSn sumVB sumSB at h
          rw [tenN_all S.vols HWF.out.vp, tenN_all S.snaps HWF.out.sp, sumU_all S.vols HWF.out.vp, sumU_all S.snaps HWF.out.sp] at h
          exact h.perm (show _ = pts B7 (.cells (arr4 0 0 0 0) 56 (0, 0)) * (pts B6 (.cells (arr4 (S.vols.length : Int) (S.snaps.length : Int) (cntL S.vols) (cntL S.snaps)) 56 (0, 0)) * (pts g4 (.cells (useA (useOf S)) TUse (0, 0)) * old W)) from by ac_rfl)⟩)
        clear HX
        go_wp2_with (go_at_call 29; refine (volsO_any p S wr (HS.out.2.1.below (H5.out.1.below_of (P := pts B7 (.cells (arr4 ((0 : Nat) : Int) 0 (cntL (S.vols.take 0)) 0) 56 (0, 0)) * (pts B6 (.cells (arr4 (S.vols.length : Int) (S.snaps.length : Int) (cntL S.vols) (cntL S.snaps)) 56 (0, 0)) * pts g4 (.cells (useA (useOf S)) TUse (0, 0)))) (H5.out.2.perm (by ac_rfl)))) HWF.out).mono ?_; rintro e w5 ⟨v5, rfl, h5⟩; have H6 := Lib.hid (show Same W w5 ∧ Sat w5 (pts B7 (.cells (arr4 ((0 : Nat) : Int) 0 (cntL (S.vols.take 0)) 0) 56 (0, 0)) * (ownAt TVi 3 v5 S.vols.length (S.vols.flatMap viE) * ((pts B6 (.cells (arr4 (S.vols.length : Int) (S.snaps.length : Int) (cntL S.vols) (cntL S.snaps)) 56 (0, 0)) * pts g4 (.cells (useA (useOf S)) TUse (0, 0))) * old W))) from ⟨H5.out.1.trans h5.out.1, (sat_old h5.out.2 H5.out.2).perm (by ac_rfl)⟩); obtain ⟨ao, cap, rfl⟩ := ownAt_slice h5.out.2; clear h5 H5)
        go_loopw [67] (fun i wr => AvSt W S B7 (.slice ao S.vols.length cap) (pts B6 (.cells (arr4 (S.vols.length : Int) (S.snaps.length : Int) (cntL S.vols) (cntL S.snaps)) 56 (0, 0)) * pts g4 (.cells (useA (useOf S)) TUse (0, 0))) i wr) (fun i _ => S.vols.length - (intOf i).toNat)
        case atStart => exact ⟨⟨0, Nat.zero_le _, rfl, H6.out⟩⟩
        case round =>
          clear H6
          obtain ⟨k, hk, rfl, HX⟩ := hrel.st
          clear hrel
          have hvl := HWF.out.vlen
          by_cases hlt : k < S.vols.length
          · have hltd2 : decide ((k : Int) < (S.vols.length : Int)) = true := decide_eq_true (by omega)
            have hki : (k : Int) ≤ 256 := by omega
            have hwk : IntKind.i64.wrap ((k : Int) + 1) = (k : Int) + 1 := IntWalk.i64_in _ (by omega)
            obtain ⟨x, hx⟩ : ∃ x, S.vols[k]? = some x := ⟨_, List.getElem?_eq_getElem hlt⟩
            obtain ⟨b, rfl, hg, e0, e1, e2⟩ := vi_cells (RowsAt.own (HX.out.2.perm (show _ = ownAt TVi 3 (.slice ao S.vols.length cap) S.vols.length (S.vols.flatMap viE) * ((pts B7 (.cells (arr4 (k : Int) 0 (cntL (S.vols.take k)) 0) 56 (0, 0)) * (pts B6 (.cells (arr4 (S.vols.length : Int) (S.snaps.length : Int) (cntL S.vols) (cntL S.snaps)) 56 (0, 0)) * pts g4 (.cells (useA (useOf S)) TUse (0, 0)))) * old W) from by ac_rfl)) (by omega)) hx
            have HT := Lib.hid (cntL_take hx)
            have hcn := cnt_le x.m
            have hcl := cntL_bound (S.vols.take k)
            rw [List.length_take] at hcl
            have hwc : IntKind.i64.wrap (cntL (S.vols.take k) + (cnt x.m : Int)) = cntL (S.vols.take k) + (cnt x.m : Int) := IntWalk.i64_in _ (by omega)
            clear hx hcl hcn
            go_upto_region 17 with (fail)
            clear e0 e1 e2
            have H2 := Lib.hid (show Same W (wr.alloc (.cells #[.int .i64 x.id, .int .i64 x.tenant, .int .i64 (cnt x.m : Int)] 60)) ∧ Sat (wr.alloc (.cells #[.int .i64 x.id, .int .i64 x.tenant, .int .i64 (cnt x.m : Int)] 60)) (pts B7 (.cells (arr4 (k : Int) 0 (cntL (S.vols.take k)) 0) 56 (0, 0)) * (pts wr.heap.size (.cells #[.int .i64 x.id, .int .i64 x.tenant, .int .i64 (cnt x.m : Int)] 60 (0, 0)) * (ownAt TVi 3 (.slice (some ⟨b, 0, none⟩) S.vols.length cap) S.vols.length (S.vols.flatMap viE) * ((pts B6 (.cells (arr4 (S.vols.length : Int) (S.snaps.length : Int) (cntL S.vols) (cntL S.snaps)) 56 (0, 0)) * pts g4 (.cells (useA (useOf S)) TUse (0, 0))) * old W)))) from ⟨HX.out.1.alloc _, (HX.out.2.alloc (.cells #[.int .i64 x.id, .int .i64 x.tenant, .int .i64 (cnt x.m : Int)] 60)).perm (by ac_rfl)⟩)
            clear HX
            generalize wr.alloc (.cells #[.int .i64 x.id, .int .i64 x.tenant, .int .i64 (cnt x.m : Int)] 60) = W2 at H2 ⊢
            generalize wr.heap.size = m at H2 ⊢
            have c0 : W2.cell? ⟨B7, 0, none⟩ = some (.int .i64 (k : Int)) := cells_at H2.out.2.block 0
            have z0 := thawed_at H2.out.2.block 0
            go_upto_region 18 with (fail)
            have h5 := H2.out.2.setCell (i := 0) (.int .i64 ((k : Int) + 1))
            rw [(arr_set _ _ _ _ _).1] at h5
            have H3 := Lib.hid (And.intro (H2.out.1.setCell ⟨B7, 0, none⟩ (.int .i64 ((k : Int) + 1))) h5)
            clear h5 c0 z0 H2
            generalize W2.setCell ⟨B7, 0, none⟩ (.int .i64 ((k : Int) + 1)) = W3 at H3 ⊢
            have c0 : W3.cell? ⟨B7, 2, none⟩ = some (.int .i64 (cntL (S.vols.take k))) := cells_at H3.out.2.block 2
            have z0 := thawed_at H3.out.2.block 2
            have d0 : W3.cell? ⟨m, 2, none⟩ = some (.int .i64 (cnt x.m : Int)) := cells_at H3.out.2.right.block 2
            go_upto_region 19 with (fail)
            have h5 := H3.out.2.setCell (i := 2) (.int .i64 (cntL (S.vols.take k) + (cnt x.m : Int)))
            rw [(arr_set _ _ _ _ _).2.2.1] at h5
            have H4 := Lib.hid (And.intro (H3.out.1.setCell ⟨B7, 2, none⟩ (.int .i64 (cntL (S.vols.take k) + (cnt x.m : Int)))) h5)
            clear h5 c0 z0 d0 H3
            generalize W3.setCell ⟨B7, 2, none⟩ (.int .i64 (cntL (S.vols.take k) + (cnt x.m : Int))) = W4 at H4 ⊢
            rw [← HT.out] at H4
            have e1 : ((k + 1 : Nat) : Int) = (k : Int) + 1 := by omega
            go_wp2
            go_roundw
            case rel => exact ⟨⟨k + 1, hlt, rfl, H4.out.1, by (try rw [e1]); exact Sat.right (P := pts m (.cells #[.int .i64 x.id, .int .i64 x.tenant, .int .i64 (cnt x.m : Int)] 60 (0, 0))) (H4.out.2.perm (by ac_rfl))⟩⟩
            case measure => simp only [intOf]; omega
          · obtain rfl : k = S.vols.length := by omega
            have hltd2 : decide ((S.vols.length : Int) < (S.vols.length : Int)) = false := decide_eq_false (by omega)
            have hnlt2 : ¬ (S.vols.length : Int) < (S.vols.length : Int) := by omega
            have H5 := Lib.hid (show Same W wr ∧ Sat wr (pts B7 (.cells (arr4 (S.vols.length : Int) ((0 : Nat) : Int) (cntL S.vols) (cntL (S.snaps.take 0))) 56 (0, 0)) * ((pts B6 (.cells (arr4 (S.vols.length : Int) (S.snaps.length : Int) (cntL S.vols) (cntL S.snaps)) 56 (0, 0)) * pts g4 (.cells (useA (useOf S)) TUse (0, 0))) * old W)) from ⟨HX.out.1, by
              have h := HX.out.2
              rw [List.take_length] at h
              exact Sat.right (P := ownAt TVi 3 (.slice ao S.vols.length cap) S.vols.length (S.vols.flatMap viE)) (h.perm (show _ = ownAt TVi 3 (.slice ao S.vols.length cap) S.vols.length (S.vols.flatMap viE) * (pts B7 (.cells (arr4 (S.vols.length : Int) 0 (cntL S.vols) 0) 56 (0, 0)) * ((pts B6 (.cells (arr4 (S.vols.length : Int) (S.snaps.length : Int) (cntL S.vols) (cntL S.snaps)) 56 (0, 0)) * pts g4 (.cells (useA (useOf S)) TUse (0, 0))) * old W)) from by ac_rfl))⟩)
            clear HX
            go_wp2_with (go_at_call 30; refine (snapsO_any p S wr (HS.out.2.1.below (H5.out.1.below_of (P := pts B7 (.cells (arr4 (S.vols.length : Int) ((0 : Nat) : Int) (cntL S.vols) (cntL (S.snaps.take 0))) 56 (0, 0)) * (pts B6 (.cells (arr4 (S.vols.length : Int) (S.snaps.length : Int) (cntL S.vols) (cntL S.snaps)) 56 (0, 0)) * pts g4 (.cells (useA (useOf S)) TUse (0, 0)))) (H5.out.2.perm (by ac_rfl)))) HWF.out).mono ?_; rintro e w5 ⟨v5, rfl, h5⟩; have H6 := Lib.hid (show Same W w5 ∧ Sat w5 (pts B7 (.cells (arr4 (S.vols.length : Int) ((0 : Nat) : Int) (cntL S.vols) (cntL (S.snaps.take 0))) 56 (0, 0)) * (ownAt TSi 4 v5 S.snaps.length (S.snaps.flatMap siE) * ((pts B6 (.cells (arr4 (S.vols.length : Int) (S.snaps.length : Int) (cntL S.vols) (cntL S.snaps)) 56 (0, 0)) * pts g4 (.cells (useA (useOf S)) TUse (0, 0))) * old W))) from ⟨H5.out.1.trans h5.out.1, (sat_old h5.out.2 H5.out.2).perm (by ac_rfl)⟩); obtain ⟨ao2, cap2, rfl⟩ := ownAt_slice h5.out.2; clear h5 H5)
            go_loopw [85] (fun i wr => AsSt W S B7 (.slice ao2 S.snaps.length cap2) (pts B6 (.cells (arr4 (S.vols.length : Int) (S.snaps.length : Int) (cntL S.vols) (cntL S.snaps)) 56 (0, 0)) * pts g4 (.cells (useA (useOf S)) TUse (0, 0))) i wr) (fun i _ => S.snaps.length - (intOf i).toNat)
            case atStart => exact ⟨⟨0, Nat.zero_le _, rfl, H6.out⟩⟩
            case round =>
              clear H6
              obtain ⟨k, hk, rfl, HX⟩ := hrel.st
              clear hrel
              have hsl := HWF.out.slen
              by_cases hlt : k < S.snaps.length
              · have hltd2 : decide ((k : Int) < (S.snaps.length : Int)) = true := decide_eq_true (by omega)
                have hki : (k : Int) ≤ 256 := by omega
                have hwk : IntKind.i64.wrap ((k : Int) + 1) = (k : Int) + 1 := IntWalk.i64_in _ (by omega)
                obtain ⟨x, hx⟩ : ∃ x, S.snaps[k]? = some x := ⟨_, List.getElem?_eq_getElem hlt⟩
                obtain ⟨b, rfl, hg, e0, e3, e1, e2⟩ := si_cells (RowsAt.own (HX.out.2.perm (show _ = ownAt TSi 4 (.slice ao2 S.snaps.length cap2) S.snaps.length (S.snaps.flatMap siE) * ((pts B7 (.cells (arr4 (S.vols.length : Int) (k : Int) (cntL S.vols) (cntL (S.snaps.take k))) 56 (0, 0)) * (pts B6 (.cells (arr4 (S.vols.length : Int) (S.snaps.length : Int) (cntL S.vols) (cntL S.snaps)) 56 (0, 0)) * pts g4 (.cells (useA (useOf S)) TUse (0, 0)))) * old W) from by ac_rfl)) (by omega)) hx
                have HT := Lib.hid (cntL_take hx)
                have hcn := cnt_le x.m
                have hcl := cntL_bound (S.snaps.take k)
                rw [List.length_take] at hcl
                have hwc : IntKind.i64.wrap (cntL (S.snaps.take k) + (cnt x.m : Int)) = cntL (S.snaps.take k) + (cnt x.m : Int) := IntWalk.i64_in _ (by omega)
                clear hx hcl hcn
                go_upto_region 23 with (fail)
                clear e0 e3 e1 e2
                have H2 := Lib.hid (show Same W (wr.alloc (.cells #[.int .i64 x.id, .int .i64 x.src, .int .i64 x.tenant, .int .i64 (cnt x.m : Int)] 64)) ∧ Sat (wr.alloc (.cells #[.int .i64 x.id, .int .i64 x.src, .int .i64 x.tenant, .int .i64 (cnt x.m : Int)] 64)) (pts B7 (.cells (arr4 (S.vols.length : Int) (k : Int) (cntL S.vols) (cntL (S.snaps.take k))) 56 (0, 0)) * (pts wr.heap.size (.cells #[.int .i64 x.id, .int .i64 x.src, .int .i64 x.tenant, .int .i64 (cnt x.m : Int)] 64 (0, 0)) * (ownAt TSi 4 (.slice (some ⟨b, 0, none⟩) S.snaps.length cap2) S.snaps.length (S.snaps.flatMap siE) * ((pts B6 (.cells (arr4 (S.vols.length : Int) (S.snaps.length : Int) (cntL S.vols) (cntL S.snaps)) 56 (0, 0)) * pts g4 (.cells (useA (useOf S)) TUse (0, 0))) * old W)))) from ⟨HX.out.1.alloc _, (HX.out.2.alloc (.cells #[.int .i64 x.id, .int .i64 x.src, .int .i64 x.tenant, .int .i64 (cnt x.m : Int)] 64)).perm (by ac_rfl)⟩)
                clear HX
                generalize wr.alloc (.cells #[.int .i64 x.id, .int .i64 x.src, .int .i64 x.tenant, .int .i64 (cnt x.m : Int)] 64) = W2 at H2 ⊢
                generalize wr.heap.size = m at H2 ⊢
                have c0 : W2.cell? ⟨B7, 1, none⟩ = some (.int .i64 (k : Int)) := cells_at H2.out.2.block 1
                have z0 := thawed_at H2.out.2.block 1
                go_upto_region 24 with (fail)
                have h5 := H2.out.2.setCell (i := 1) (.int .i64 ((k : Int) + 1))
                rw [(arr_set _ _ _ _ _).2.1] at h5
                have H3 := Lib.hid (And.intro (H2.out.1.setCell ⟨B7, 1, none⟩ (.int .i64 ((k : Int) + 1))) h5)
                clear h5 c0 z0 H2
                generalize W2.setCell ⟨B7, 1, none⟩ (.int .i64 ((k : Int) + 1)) = W3 at H3 ⊢
                have c0 : W3.cell? ⟨B7, 3, none⟩ = some (.int .i64 (cntL (S.snaps.take k))) := cells_at H3.out.2.block 3
                have z0 := thawed_at H3.out.2.block 3
                have d0 : W3.cell? ⟨m, 3, none⟩ = some (.int .i64 (cnt x.m : Int)) := cells_at H3.out.2.right.block 3
                go_upto_region 25 with (fail)
                have h5 := H3.out.2.setCell (i := 3) (.int .i64 (cntL (S.snaps.take k) + (cnt x.m : Int)))
                rw [(arr_set _ _ _ _ _).2.2.2] at h5
                have H4 := Lib.hid (And.intro (H3.out.1.setCell ⟨B7, 3, none⟩ (.int .i64 (cntL (S.snaps.take k) + (cnt x.m : Int)))) h5)
                clear h5 c0 z0 d0 H3
                generalize W3.setCell ⟨B7, 3, none⟩ (.int .i64 (cntL (S.snaps.take k) + (cnt x.m : Int))) = W4 at H4 ⊢
                rw [← HT.out] at H4
                have e1 : ((k + 1 : Nat) : Int) = (k : Int) + 1 := by omega
                go_wp2
                go_roundw
                case rel => exact ⟨⟨k + 1, hlt, rfl, H4.out.1, by (try rw [e1]); exact Sat.right (P := pts m (.cells #[.int .i64 x.id, .int .i64 x.src, .int .i64 x.tenant, .int .i64 (cnt x.m : Int)] 64 (0, 0))) (H4.out.2.perm (by ac_rfl))⟩⟩
                case measure => simp only [intOf]; omega
              · obtain rfl : k = S.snaps.length := by omega
                have hltd3 : decide ((S.snaps.length : Int) < (S.snaps.length : Int)) = false := decide_eq_false (by omega)
                have hnlt3 : ¬ (S.snaps.length : Int) < (S.snaps.length : Int) := by omega
                rw [List.take_length] at HX
                have HB := Lib.hid (HX.out.1.below_of (P := pts B7 (.cells (arr4 (S.vols.length : Int) (S.snaps.length : Int) (cntL S.vols) (cntL S.snaps)) 56 (0, 0)) * (ownAt TSi 4 (.slice ao2 S.snaps.length cap2) S.snaps.length (S.snaps.flatMap siE) * (pts B6 (.cells (arr4 (S.vols.length : Int) (S.snaps.length : Int) (cntL S.vols) (cntL S.snaps)) 56 (0, 0)) * pts g4 (.cells (useA (useOf S)) TUse (0, 0))))) (HX.out.2.perm (by ac_rfl)))
                have hq := fun w : World => eql_arr4 (S.vols.length : Int) (S.snaps.length : Int) (cntL S.vols) (cntL S.snaps) w
                unfold arr4 at hq
                go_wp2_with (go_at_call 10; refine (sanity_any _).mono ?_; rintro e w20 ⟨rfl, h20⟩; have H9 := Lib.hid (HX.out.2.below h20); have p0 : w20.cell? ⟨B7, 0, none⟩ = some (.int .i64 (S.vols.length : Int)) := cells_at H9.out.block 0; have p1 : w20.cell? ⟨B7, 1, none⟩ = some (.int .i64 (S.snaps.length : Int)) := cells_at H9.out.block 1; have p2 : w20.cell? ⟨B7, 2, none⟩ = some (.int .i64 (cntL S.vols)) := cells_at H9.out.block 2; have p3 : w20.cell? ⟨B7, 3, none⟩ = some (.int .i64 (cntL S.snaps)) := cells_at H9.out.block 3; have q0 : w20.cell? ⟨B6, 0, none⟩ = some (.int .i64 (S.vols.length : Int)) := cells_at H9.out.right.right.left.block 0; have q1 : w20.cell? ⟨B6, 1, none⟩ = some (.int .i64 (S.snaps.length : Int)) := cells_at H9.out.right.right.left.block 1; have q2 : w20.cell? ⟨B6, 2, none⟩ = some (.int .i64 (cntL S.vols)) := cells_at H9.out.right.right.left.block 2; have q3 : w20.cell? ⟨B6, 3, none⟩ = some (.int .i64 (cntL S.snaps)) := cells_at H9.out.right.right.left.block 3)
                go_ret
                exact ⟨rfl, HS.out.1.trans ((HB.out.trans (h20.mono HB.out.size)).mono HS.out.1.size)⟩
  · have HN := Lib.hid (build_no sv l w hscr (by omega))
    unfold nilV at HN
    clear hscr
    go_enter Tryz.func6, Tryz.ntmps6
    go_wp2_with (first
      | (go_at_call 9; refine HN.out.mono ?_; rintro e w1 ⟨rfl, h1⟩)
      | (go_at_call 10; refine (sanity_any _).mono ?_; rintro e w2 ⟨rfl, h2⟩))
    go_ret
    have hal := h1.alloc h1.size (.cells #[.slice none 0 0, .slice none 0 0] TRS)
    exact ⟨rfl, hal.trans (h2.mono hal.size)⟩
set_option maxRecDepth 100000 in
theorem usageAddsUp_lifted (os : Os) (started : os.Started) (H : Type) (enc : TypeId × Value → H) :
    ReturnsInHanded {} Tryz.checked os 6 .any (Rows.usageAddsUpSpec.pre6 enc Tryz.prog Tryz.f6 Rows.usageAddsUpRow.domain false) (Rows.usageAddsUpSpec.post enc Tryz.prog Tryz.f6 false true false false) := by
  refine returnsInHanded_of_change (C := Tryz.checked) law_own started (by kernel_rfl) Tryz.func6
    (ChangeSpec.witness6 (enc := enc) (C := Tryz.checked) false ⟨#[], #[.slice none 0 0], []⟩ 8 (by kernel_rfl) (by kernel_rfl) (by kernel_rfl) (by kernel_rfl)) ?_
  intro W base args ds gs before hval0 hW _ _
  have hval : ∀ (j : Nat) t v, Tryz.f6.params[j]? = some t → args[j]? = some v → Value.okWide Tryz.prog W .any base t v := hval0
  have hW' := hW
  obtain ⟨p, q, hA0, hV, rfl, _, _⟩ := hW
  have hA : DataW.TrodAll enc Tryz.prog W 0 (fun _ => true) true Tryz.f6.params.toList args.toList ds p := hA0
  rw [Tryz.params6] at hA hval
  obtain ⟨w0, vs0, d0, ds0, p0, q0, hargs, rfl, rfl, h0, r0⟩ := trodAll_cons hA
  obtain ⟨rfl, rfl, rfl⟩ := trodAll_nil r0
  obtain rfl : args = #[w0] := by cases args; simp_all
  obtain ⟨rfl, rfl⟩ := trodVars_none hV
  obtain ⟨v0, l0, e0, s0⟩ := rd_vscript28 (trod_rd h0)
  obtain ⟨x0, y0, z0, rfl⟩ := okWide_slice Tryz.underlying22 (hval 0 _ w0 rfl rfl)
  obtain rfl : .slice x0 y0 z0 = v0 := by simpa [Value.cells] using e0
  refine (adds_law _ l0 W s0).mono fun e W' ⟨he, hg⟩ => ?_
  subst he
  exact ⟨_, rfl, law_post (by kernel_rfl) rfl (of_decide_eq_true (by kernel_rfl)) rfl hW' hg⟩

theorem usageAddsUp_holds : Rows.UsageAddsUpSaid :=
  OpenClaim.holds_of_wide 6 Tryz.f6 rfl rfl rfl rfl rfl rfl rfl ⟨rfl, rfl, rfl, rfl, rfl⟩ rfl rfl rfl rfl rfl (by kernel_rfl) Tryz.func6 (by kernel_rfl)
    (of_decide_eq_true (by kernel_rfl)) (by unfold Func.isWrapper; first | (rw [if_pos (by decide +kernel)]; kernel_rfl) | (rw [if_neg (by decide +kernel)]; exact ⟨rfl, rfl⟩))
    (fun os started H enc _ => usageAddsUp_lifted os started H enc)

end Go.Proofs.YtmgcgdkndkibgaaGreat
