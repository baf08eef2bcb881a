/- DiskFaults: a write after Lose changes nothing; a write after Misdirect changes the other sector alone; the write after that is executed as usual. No condition. -/
import Derived.Test.YtdeblpnkpefbcaaLp
namespace Go.Proofs.Ytdeblpnkpefbcaa
open Go.RowKit Go.Sl Go.ChangeMaps Go.ChangeShapes Go.WideShapes Go.ChangeAt

theorem write_put {D : DiskM} {i : Nat} {s : List UInt8} (hi : i < D.n) (hs : s.length = 64) : D.write (i : Int) s = (D.put i s, 0) := by
  unfold DiskM.write; rw [if_pos ⟨DiskM.has_iff.2 (by omega), hs⟩, Int.toNat_natCast]
theorem put_plain {D : DiskM} {i : Nat} (s : List UInt8) (h : D.armed i = none) : (D.put i s).armed i = none ∧ (D.put i s).n = D.n ∧ ∀ k, (D.put i s).content k = if k = i then s else D.content k := by
  unfold DiskM.put; rw [h]
  refine ⟨h, rfl, fun k => ?_⟩
  unfold DiskM.content fupd
  simp only
  split <;> rfl
theorem put_lost {D : DiskM} {i : Nat} (s : List UInt8) (h : D.armed i = some (-1)) : (D.put i s).armed i = none ∧ (D.put i s).n = D.n ∧ ∀ k, (D.put i s).content k = D.content k := by
  unfold DiskM.put; rw [h]; simp only [if_true]
  exact ⟨by simp [fupd], trivial, fun k => rfl⟩
theorem put_mis {D : DiskM} {i j : Nat} (s : List UInt8) (h : D.armed i = some (j : Int)) : (D.put i s).armed i = none ∧ (D.put i s).n = D.n ∧ ∀ k, (D.put i s).content k = if k = j then s else D.content k := by
  unfold DiskM.put; rw [h]; simp only; rw [if_neg (by omega)]
  refine ⟨by simp [fupd], rfl, fun k => ?_⟩
  unfold DiskM.content fupd
  simp only [Int.toNat_natCast]
  split <;> rfl

set_option maxHeartbeats 2000000 in
theorem faults_no (n i j : Int) (sv : Value) (l : List OpM) (w : World) (hsc : ScrAt w sv l) (h : ¬ ((0 ≤ n ∧ n ≤ 40 ∧ l.length ≤ 200) ∧ 0 ≤ i ∧ i < n ∧ 0 ≤ j ∧ j < n)) :
    Calls Try.prog 7 #[.int .i64 n, sv, .int .i64 i, .int .i64 j] w fun e w' => e = .returned (.bool true) ∧ Below w.heap.size w w' := by
  obtain ⟨ao, cap, rfl, _⟩ := hsc
  by_cases hf : 0 ≤ n ∧ n ≤ 40 ∧ l.length ≤ 200
  · have c1 := few_yes n ao l.length cap w hf.1 hf.2.1 hf.2.2
    by_cases h0 : 0 ≤ i
    · have q0 : decide (i < 0) = false := decide_eq_false (by omega)
      by_cases h1 : i < n
      · have q1 : decide (n ≤ i) = false := decide_eq_false (by omega)
        by_cases h2 : 0 ≤ j
        · have q2 : decide (j < 0) = false := decide_eq_false (by omega)
          have q3 : decide (n ≤ j) = true := decide_eq_true (by by_cases h3 : n ≤ j; exact h3; exact absurd ⟨hf, h0, h1, h2, by omega⟩ h)
          clear h h0 h1 h2 hf
          go_enter Try.func7, Try.ntmps7
          go_wp2_with (first
            | (go_at_call 10; refine c1.mono ?_; rintro e w' ⟨rfl, hw⟩; subst hw)
            | (go_at_call 11; refine (sanity_any _).mono ?_; rintro e w' ⟨rfl, hb⟩; replace hb := Lib.hid hb))
          go_ret
          exact ⟨rfl, hb.out⟩
        · have q2 : decide (j < 0) = true := decide_eq_true (by omega)
          clear h h0 h1 h2 hf
          go_enter Try.func7, Try.ntmps7
          go_wp2_with (first
            | (go_at_call 10; refine c1.mono ?_; rintro e w' ⟨rfl, hw⟩; subst hw)
            | (go_at_call 11; refine (sanity_any _).mono ?_; rintro e w' ⟨rfl, hb⟩; replace hb := Lib.hid hb))
          go_ret
          exact ⟨rfl, hb.out⟩
      · have q1 : decide (n ≤ i) = true := decide_eq_true (by omega)
        clear h h0 h1 hf
        go_enter Try.func7, Try.ntmps7
        go_wp2_with (first
          | (go_at_call 10; refine c1.mono ?_; rintro e w' ⟨rfl, hw⟩; subst hw)
          | (go_at_call 11; refine (sanity_any _).mono ?_; rintro e w' ⟨rfl, hb⟩; replace hb := Lib.hid hb))
        go_ret
        exact ⟨rfl, hb.out⟩
    · have q0 : decide (i < 0) = true := decide_eq_true (by omega)
      clear h h0 hf
      go_enter Try.func7, Try.ntmps7
      go_wp2_with (first
        | (go_at_call 10; refine c1.mono ?_; rintro e w' ⟨rfl, hw⟩; subst hw)
        | (go_at_call 11; refine (sanity_any _).mono ?_; rintro e w' ⟨rfl, hb⟩; replace hb := Lib.hid hb))
      go_ret
      exact ⟨rfl, hb.out⟩
  · have c1 := few_no n ao l.length cap w hf
    clear h hf
    go_enter Try.func7, Try.ntmps7
    go_wp2_with (first
      | (go_at_call 10; refine c1.mono ?_; rintro e w' ⟨rfl, hw⟩; subst hw)
      | (go_at_call 11; refine (sanity_any _).mono ?_; rintro e w' ⟨rfl, hb⟩; replace hb := Lib.hid hb))
    go_ret
    exact ⟨rfl, hb.out⟩

theorem step_writeX {p : Nat} {D D' : DiskM} {F : HProp} {w : World} {k : Int} (i : Int) (s : List UInt8) {X : ByteArray} (hX : strV s = X) (hS : Sat w (diskAt TD TS p D * F)) (h1 : (D.write i s).1 = D') (h2 : (D.write i s).2 = k) :
    Calls Try.prog 27 #[.pointer (some ⟨p, 0, none⟩), .int .i64 i, .string X] w fun e w' => e = .returned (.int .i64 k) ∧ Hid (Same w w' ∧ Sat w' (diskAt TD TS p D' * F)) := by
  subst hX; exact step_write i s hS h1 h2

structure Plan (D D1 D2 D3 D4 D5 : DiskM) (N i j : Nat) : Prop where
  n0 : D.n = N
  e1 : D.lose (i : Int) = (D1, 0)
  e2 : D1.write (i : Int) (repA 120) = (D2, 0)
  e3 : D2.misdirect (i : Int) (j : Int) = (D3, 0)
  e4 : D3.write (i : Int) (repA 120) = (D4, 0)
  e5 : D4.write (i : Int) (repA 121) = (D5, 0)
  n2 : D2.n = N
  n4 : D4.n = N
  n5 : D5.n = N
  s2 : strB D N = strB D2 N
  s4 : (strB D N).set j (strV (repA 120)) = strB D4 N
  s5 : (strB D4 N).set i (strV (repA 121)) = strB D5 N
theorem plan_ex (D : DiskM) (N i j : Nat) (hD : D.n = N) (hi : i < N) (hj : j < N) : ∃ D1 D2 D3 D4 D5, Plan D D1 D2 D3 D4 D5 N i j := by
  have hx : ∀ b, (repA b).length = 64 := fun b => List.length_replicate
  have e1 : D.lose (i : Int) = ({ D with armed := fupd D.armed i (some (-1)) }, 0) := by
    unfold DiskM.lose; rw [if_pos (DiskM.has_iff.2 (by omega)), Int.toNat_natCast]
  obtain ⟨D1, hD1⟩ : ∃ D1 : DiskM, D1 = { D with armed := fupd D.armed i (some (-1)) } := ⟨_, rfl⟩
  rw [← hD1] at e1
  have n1 : D1.n = N := by rw [hD1]; exact hD
  have a1 : D1.armed i = some (-1) := by rw [hD1]; simp [fupd]
  have c1 : ∀ k, D1.content k = D.content k := by intro k; rw [hD1]; rfl
  have e2 := write_put (D := D1) (i := i) (s := repA 120) (by omega) (hx _)
  obtain ⟨a2, n2, c2⟩ := put_lost (D := D1) (repA 120) a1
  generalize D1.put i (repA 120) = D2 at e2 a2 n2 c2
  have e3 : D2.misdirect (i : Int) (j : Int) = ({ D2 with armed := fupd D2.armed i (some (j : Int)) }, 0) := by
    unfold DiskM.misdirect; rw [if_pos ⟨DiskM.has_iff.2 (by omega), DiskM.has_iff.2 (by omega)⟩, Int.toNat_natCast]
  obtain ⟨D3, hD3⟩ : ∃ D3 : DiskM, D3 = { D2 with armed := fupd D2.armed i (some (j : Int)) } := ⟨_, rfl⟩
  rw [← hD3] at e3
  have n3 : D3.n = D2.n := by rw [hD3]
  have a3 : D3.armed i = some (j : Int) := by rw [hD3]; simp [fupd]
  have c3 : ∀ k, D3.content k = D2.content k := by intro k; rw [hD3]; rfl
  have e4 := write_put (D := D3) (i := i) (s := repA 120) (by omega) (hx _)
  obtain ⟨a4, n4, c4⟩ := put_mis (D := D3) (repA 120) a3
  generalize D3.put i (repA 120) = D4 at e4 a4 n4 c4
  have e5 := write_put (D := D4) (i := i) (s := repA 121) (by omega) (hx _)
  obtain ⟨a5, n5, c5⟩ := put_plain (D := D4) (repA 121) a4
  generalize D4.put i (repA 121) = D5 at e5 a5 n5 c5
  refine ⟨D1, D2, D3, D4, D5, hD, e1, e2, e3, e4, e5, by omega, by omega, by omega, ?_, ?_, ?_⟩
  · exact strB_congr fun k _ => by rw [c2, c1]
  · exact strB_set fun k _ => by rw [c4, c3, c2, c1]
  · exact strB_set fun k _ => c5 k

set_option linter.unusedSimpArgs false in
set_option maxHeartbeats 4000000 in
theorem faults_yes (N i j : Nat) (sv : Value) (l : List OpM) (w : World) (hsc : ScrAt w sv l) (hN : N ≤ 40) (hl : l.length ≤ 200) (hi : i < N) (hj : j < N) :
    Calls Try.prog 7 #[.int .i64 (N : Int), sv, .int .i64 (i : Int), .int .i64 (j : Int)] w fun e w' => e = .returned (.bool true) ∧ Below w.heap.size w w' := by
  obtain ⟨ao, cap, rfl, hsr⟩ := hsc
  have HSR := Lib.hid hsr
  clear hsr
  have HO := Lib.hid (Sat.old w)
  have c1 := few_yes (N : Int) ao l.length cap w (by omega) (by omega) hl
  have q0 : decide ((i : Int) < 0) = false := decide_eq_false (by omega)
  have q1 : decide ((N : Int) ≤ (i : Int)) = false := decide_eq_false (by omega)
  have q2 : decide ((j : Int) < 0) = false := decide_eq_false (by omega)
  have q3 : decide ((N : Int) ≤ (j : Int)) = false := decide_eq_false (by omega)
  go_enter Try.func7, Try.ntmps7
  go_upto_region 4 with (first
    | (go_at_call 10; refine c1.mono ?_; rintro e w' ⟨rfl, hw⟩; subst hw)
    | (go_at_call 12; refine (new_any (N : Int) (emp * old w) w ((emp_star (old w)).symm ▸ HO.out)).mono ?_; rintro e w1 ⟨p, rfl, H1⟩; replace H1 := Lib.hid H1))
  go_wp2
  go_loopw [44] (fun i wr => LoopSt w p (DiskM.new (N : Int)) l emp i wr) (fun i _ => l.length - (intOf i).toNat)
  case atStart => exact ⟨⟨0, Nat.zero_le _, rfl, H1.out⟩⟩
  case round =>
    obtain ⟨k, hk, rfl, hsmr, hsr⟩ := hrel.st
    clear hrel
    have H2 := Lib.hid (And.intro hsmr hsr)
    by_cases hlt : k < l.length
    · obtain ⟨o, ho⟩ : ∃ o, l[k]? = some o := ⟨_, List.getElem?_eq_getElem hlt⟩
      obtain ⟨b, off, rfl, hro⟩ := HSR.out (by rintro rfl; simp at hlt)
      obtain ⟨pv, hro1, hint⟩ := hro k o ho
      have hrow : wr.rangeAt b (off + k * 6) (opA o pv).toList := fun t u hu => (World.cell?_of_block ((hsr.perm (show _ = (diskAt TD TS p (runM (DiskM.new (N : Int)) (l.take k)) * emp) * old w from by ac_rfl)).of_old b (World.block_lt_of_cell? w ⟨b, off + k * 6 + t, none⟩ (hro1 t u hu)))).trans (hro1 t u hu)
      have hone := IntsAt.one hint
      have hltd : decide ((k : Int) < (l.length : Int)) = true := decide_eq_true (by omega)
      have hki : (k : Int) ≤ 200 := by omega
      have HO := Lib.hid ho
      have HI := Lib.hid (show ∀ w', Sat w' (emp * old w) → IntsAt w' pv o.picks from fun w' h => IntsAt.old hint h)
      clear ho hro hro1 hsmr hsr hint
      go_wp2_with (first
        | ((with_reducible (apply wp_load_scr hrow)); rfl; rfl; rfl)
        | ((with_reducible (refine wpList_alloc_zero ?_ TOp ?_ _ (zeroTOp _) ?_)); rfl; rfl)
        | ((with_reducible (apply wp_store_opf hone)); rfl; rfl; rfl; rfl)
        | ((with_reducible (apply wp_load_opf)); rfl; rfl; rfl)
        | (go_at_call 15; refine (do_any p _ _ o pv _ (H2.out.2.allocKeep _) HI.out).mono ?_; rintro e w' ⟨rfl, h2⟩; replace H2 := Lib.hid (And.intro ((H2.out.1.alloc _).trans h2.out.1) h2.out.2); clear h2))
      go_roundw
      case rel => exact ⟨⟨k + 1, hlt, rfl, H2.out.1, by rw [runM_take _ HO.out]; exact H2.out.2⟩⟩
      case measure => simp only [intOf]; omega
    · obtain rfl : k = l.length := by omega
      have hltd : decide ((l.length : Int) < (l.length : Int)) = false := decide_eq_false (by omega)
      clear hsmr hsr
      obtain ⟨D, hD⟩ : ∃ D, D = runM (DiskM.new (N : Int)) l := ⟨_, rfl⟩
      have hDn : D.n = N := by rw [hD, runM_n]; simp only [DiskM.new]; omega
      replace H1 := Lib.hid (show Same w wr ∧ Sat wr (diskAt TD TS p D * (emp * old w)) by have := H2.out; rw [runM_all, ← hD] at this; exact this)
      clear H2 hD
      obtain ⟨D1, D2, D3, D4, D5, pl⟩ := plan_ex D N i j hDn hi hj
      have PL := Lib.hid pl
      clear pl hDn
      go_upto_region 12 with (go_at_call 19; refine (rep_str _ _).mono ?_; rintro e w' ⟨rfl, hb⟩; replace H1 := Lib.hid (And.intro (H1.out.1.below hb) (H1.out.2.below hb)); clear hb)
      generalize hX : strV (repA 120) = X
      generalize hY : strV (repA 121) = Y
      have HX := Lib.hid hX
      have HY := Lib.hid hY
      clear hX hY
      go_upto_region 13 with (go_at_call 22; refine (step_contents H1.out.2 PL.out.n0).mono ?_; rintro e w' ⟨ov, rfl, h2⟩; replace H1 := Lib.hid (And.intro (H1.out.1.trans h2.out.1) h2.out.2); clear h2)
      replace H1 := Lib.hid (show Same w _ ∧ Sat _ (diskAt TD TS p D * (rowS ov (strB D N) * old w)) from ⟨H1.out.1, by have := H1.out.2; rw [emp_star] at this; exact this.perm (by ac_rfl)⟩)
      go_upto_region 15 with (first
        | (go_at_call 26; refine (step_lose (D' := D1) (k := 0) (i : Int) H1.out.2 (by rw [PL.out.e1]) (by rw [PL.out.e1])).mono ?_; rintro e w' ⟨rfl, h2⟩; replace H1 := Lib.hid (And.intro (H1.out.1.trans h2.out.1) h2.out.2); clear h2)
        | (go_at_call 27; refine (step_writeX (D' := D2) (k := 0) (i : Int) (repA 120) HX.out H1.out.2 (by rw [PL.out.e2]) (by rw [PL.out.e2])).mono ?_; rintro e w' ⟨rfl, h2⟩; replace H1 := Lib.hid (And.intro (H1.out.1.trans h2.out.1) h2.out.2); clear h2)
        | (go_at_call 22; refine (step_contents H1.out.2 PL.out.n2).mono ?_; rintro e w' ⟨cv, rfl, h2⟩; replace H1 := Lib.hid (And.intro (H1.out.1.trans h2.out.1) h2.out.2); clear h2)
        | (go_at_call 28; refine (step_equal (X := diskAt TD TS p D2 * (rowS ov (strB D N) * old w)) H1.out.2 (fun w' h => rowS_strs (h.perm (show _ = rowS ov (strB D N) * (diskAt TD TS p D2 * old w) from by ac_rfl))) (by simp [strB_length]; omega) true (decide_eq_true (PL.out.s2))).mono ?_; rintro e w' ⟨rfl, h2⟩; replace H1 := Lib.hid (And.intro (H1.out.1.trans h2.out.1) h2.out.2); clear h2))
      go_upto_region 17 with (first
        | (go_at_call 29; refine (step_mis (D' := D3) (k := 0) (i : Int) (j : Int) H1.out.2 (by rw [PL.out.e3]) (by rw [PL.out.e3])).mono ?_; rintro e w' ⟨rfl, h2⟩; replace H1 := Lib.hid (And.intro (H1.out.1.trans h2.out.1) h2.out.2); clear h2)
        | (go_at_call 27; refine (step_writeX (D' := D4) (k := 0) (i : Int) (repA 120) HX.out H1.out.2 (by rw [PL.out.e4]) (by rw [PL.out.e4])).mono ?_; rintro e w' ⟨rfl, h2⟩; replace H1 := Lib.hid (And.intro (H1.out.1.trans h2.out.1) h2.out.2); clear h2))
      obtain ⟨g1, cap1, hv, ⟨u, hu⟩, hfr, hset⟩ := rowS_at (j := j) (H1.out.2.perm (show _ = rowS ov (strB D N) * (diskAt TD TS p D4 * old w) from by ac_rfl)) (by simp [strB_length]; omega)
      rw [strB_length] at hv
      subst hv
      have H3 := Lib.hid (And.intro (H1.out.1.setCell ⟨g1, j, none⟩ (.string X)) (hset X))
      clear hset
      have hni : (j : Int) < (N : Int) := by omega
      have hn0 : (0 : Int) ≤ (j : Int) := by omega
      go_upto_region 18 with (fail)
      clear hu hfr hni hn0
      replace H1 := Lib.hid (show Same w _ ∧ Sat _ (diskAt TD TS p D4 * (rowS (.slice (some ⟨g1, 0, none⟩) N cap1) (strB D4 N) * old w)) from ⟨H3.out.1, by have := H3.out.2; have e := PL.out.s4; rw [HX.out] at e; rw [e] at this; exact this.perm (by ac_rfl)⟩)
      clear H3
      go_upto_region 20 with (first
        | (go_at_call 22; refine (step_contents H1.out.2 PL.out.n4).mono ?_; rintro e w' ⟨cv, rfl, h2⟩; replace H1 := Lib.hid (And.intro (H1.out.1.trans h2.out.1) h2.out.2); clear h2)
        | (go_at_call 28; refine (step_equal (X := diskAt TD TS p D4 * (rowS (.slice (some ⟨g1, 0, none⟩) N cap1) (strB D4 N) * old w)) H1.out.2 (fun w' h => rowS_strs (h.perm (show _ = rowS (.slice (some ⟨g1, 0, none⟩) N cap1) (strB D4 N) * (diskAt TD TS p D4 * old w) from by ac_rfl))) (by simp [strB_length]; omega) true (decide_eq_true (rfl))).mono ?_; rintro e w' ⟨rfl, h2⟩; replace H1 := Lib.hid (And.intro (H1.out.1.trans h2.out.1) h2.out.2); clear h2)
        | (go_at_call 27; refine (step_writeX (D' := D5) (k := 0) (i : Int) (repA 121) HY.out H1.out.2 (by rw [PL.out.e5]) (by rw [PL.out.e5])).mono ?_; rintro e w' ⟨rfl, h2⟩; replace H1 := Lib.hid (And.intro (H1.out.1.trans h2.out.1) h2.out.2); clear h2))
      obtain ⟨g2, cap2, hv, ⟨u, hu⟩, hfr, hset⟩ := rowS_at (j := i) (H1.out.2.perm (show _ = rowS (.slice (some ⟨g1, 0, none⟩) N cap1) (strB D4 N) * (diskAt TD TS p D5 * old w) from by ac_rfl)) (by simp [strB_length]; omega)
      obtain ⟨rfl, rfl⟩ : g1 = g2 ∧ cap1 = cap2 := by injection hv with h1 h2 h3; simp at h1; exact ⟨h1, h3⟩
      clear hv
      have H3 := Lib.hid (And.intro (H1.out.1.setCell ⟨g1, i, none⟩ (.string Y)) (hset Y))
      clear hset
      have hni : (i : Int) < (N : Int) := by omega
      have hn0 : (0 : Int) ≤ (i : Int) := by omega
      go_upto_region 21 with (fail)
      clear hu hfr hni hn0
      replace H1 := Lib.hid (show Same w _ ∧ Sat _ (diskAt TD TS p D5 * (rowS (.slice (some ⟨g1, 0, none⟩) N cap1) (strB D5 N) * old w)) from ⟨H3.out.1, by have := H3.out.2; have e := PL.out.s5; rw [HY.out] at e; rw [e] at this; exact this.perm (by ac_rfl)⟩)
      clear H3
      go_wp2_with (first
        | (go_at_call 11; refine (sanity_any _).mono ?_; rintro e w' ⟨rfl, hb⟩; replace H1 := Lib.hid (And.intro (H1.out.1.below hb) (H1.out.2.below hb)); clear hb)
        | (go_at_call 22; refine (step_contents H1.out.2 PL.out.n5).mono ?_; rintro e w' ⟨cv, rfl, h2⟩; replace H1 := Lib.hid (And.intro (H1.out.1.trans h2.out.1) h2.out.2); clear h2)
        | (go_at_call 28; refine (step_equal (X := diskAt TD TS p D5 * (rowS (.slice (some ⟨g1, 0, none⟩) N cap1) (strB D5 N) * old w)) H1.out.2 (fun w' h => rowS_strs (h.perm (show _ = rowS (.slice (some ⟨g1, 0, none⟩) N cap1) (strB D5 N) * (diskAt TD TS p D5 * old w) from by ac_rfl))) (by simp [strB_length]; omega) true (decide_eq_true (rfl))).mono ?_; rintro e w' ⟨rfl, h2⟩; replace H1 := Lib.hid (And.intro (H1.out.1.trans h2.out.1) h2.out.2); clear h2))
      go_ret
      exact ⟨rfl, H1.out.1.below_of (H1.out.2.perm (show _ = diskAt TD TS p D5 * rowS (.slice (some ⟨g1, 0, none⟩) N cap1) (strB D5 N) * old w from by ac_rfl))⟩

theorem faults_any (n i j : Int) (sv : Value) (l : List OpM) (w : World) (hsc : ScrAt w sv l) :
    Calls Try.prog 7 #[.int .i64 n, sv, .int .i64 i, .int .i64 j] w fun e w' => e = .returned (.bool true) ∧ Below w.heap.size w w' := by
  by_cases h : (0 ≤ n ∧ n ≤ 40 ∧ l.length ≤ 200) ∧ 0 ≤ i ∧ i < n ∧ 0 ≤ j ∧ j < n
  · obtain ⟨⟨h0, h1, h2⟩, h3, h4, h5, h6⟩ := h
    obtain ⟨N, rfl⟩ := Int.eq_ofNat_of_zero_le h0
    obtain ⟨I, rfl⟩ := Int.eq_ofNat_of_zero_le h3
    obtain ⟨J, rfl⟩ := Int.eq_ofNat_of_zero_le h5
    exact faults_yes N I J sv l w hsc (by omega) h2 (by omega) (by omega)
  · exact faults_no n i j sv l w hsc h

set_option maxRecDepth 100000 in
theorem diskFaults_lifted (os : Os) (started : os.Started) (H : Type) (enc : TypeId × Value → H) :
    ReturnsInHanded {} Try.checked os 7 .any (Rows.diskFaultsSpec.pre6 enc Try.prog Try.f7 Rows.diskFaultsRow.domain false) (Rows.diskFaultsSpec.post enc Try.prog Try.f7 false true false false) := by
  refine returnsInHanded_of_change (C := Try.checked) law_own started (by kernel_rfl) Try.func7
    (ChangeSpec.witness6 (enc := enc) (C := Try.checked) false ⟨#[], #[.int .i64 0, .slice none 0 0, .int .i64 0, .int .i64 0], []⟩ 8 (by kernel_rfl) (by kernel_rfl) (by kernel_rfl) (by kernel_rfl)) ?_
  intro W base args ds gs before hval0 hW _ _
  have hval : ∀ (j : Nat) t v, Try.f7.params[j]? = some t → args[j]? = some v → Value.okWide Try.prog W .any base t v := hval0
  have hW' := hW
  obtain ⟨p, q, hA0, hV, rfl, _, _⟩ := hW
  have hA : DataW.TrodAll enc Try.prog W 0 (fun _ => true) true Try.f7.params.toList args.toList ds p := hA0
  rw [Try.params7] at hA hval
  obtain ⟨w0, vs0, d0, ds0, p0, q0, hargs, rfl, rfl, h0, r0⟩ := trodAll_cons hA
  obtain ⟨w1, vs1, d1, ds1, p1, q1, rfl, rfl, rfl, h1, r1⟩ := trodAll_cons r0
  obtain ⟨w2, vs2, d2, ds2, p2, q2, rfl, rfl, rfl, h2, r2⟩ := trodAll_cons r1
  obtain ⟨w3, vs3, d3, ds3, p3, q3, rfl, rfl, rfl, h3, r3⟩ := trodAll_cons r2
  obtain ⟨rfl, rfl, rfl⟩ := trodAll_nil r3
  obtain rfl : args = #[w0, w1, w2, w3] := by cases args; simp_all
  obtain ⟨rfl, rfl⟩ := trodVars_none hV
  obtain ⟨a0, rfl, rfl, rfl, _⟩ := open_int Try.underlying3 (hval 0 3 w0 rfl rfl) h0
  obtain ⟨v1, l1, e1, s1⟩ := rd_script (trod_rd h1)
  obtain ⟨x1, y1, z1, rfl⟩ := okWide_slice Try.underlying22 (hval 1 _ w1 rfl rfl)
  obtain rfl : .slice x1 y1 z1 = v1 := by simpa [Value.cells] using e1
  obtain ⟨a2, rfl, rfl, rfl, _⟩ := open_int Try.underlying3 (hval 2 3 w2 rfl rfl) h2
  obtain ⟨a3, rfl, rfl, rfl, _⟩ := open_int Try.underlying3 (hval 3 3 w3 rfl rfl) h3
  refine (faults_any a0 a2 a3 _ l1 W s1).mono fun e W' ⟨he, hg⟩ => ?_
  subst he
  exact ⟨_, rfl, law_post (by kernel_rfl) rfl (of_decide_eq_true (by kernel_rfl)) rfl hW' hg⟩

theorem diskFaults_holds : Rows.DiskFaultsSaid :=
  OpenClaim.holds_of_wide 7 Try.f7 rfl rfl rfl rfl rfl rfl rfl ⟨rfl, rfl, rfl, rfl, rfl⟩ rfl rfl rfl rfl rfl (by kernel_rfl) Try.func7 (by kernel_rfl)
    (of_decide_eq_true (by kernel_rfl)) (by unfold Func.isWrapper; first | (rw [if_pos (by decide +kernel)]; kernel_rfl) | (rw [if_neg (by decide +kernel)]; exact ⟨rfl, rfl⟩))
    (fun os started H enc _ => diskFaults_lifted os started H enc)

end Go.Proofs.Ytdeblpnkpefbcaa
