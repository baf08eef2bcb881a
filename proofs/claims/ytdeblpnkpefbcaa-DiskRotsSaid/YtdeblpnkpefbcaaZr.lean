/- DiskRots: inverting a bit of a sector changes exactly this bit of what is read, before and after a Flush, and inverting it again restores the sector. No condition. -/
import Derived.Test.YtdeblpnkpefbcaaLp
namespace Go.Proofs.Ytdeblpnkpefbcaa
open Go.RowKit Go.Sl Go.ChangeMaps Go.ChangeShapes Go.WideShapes Go.ChangeAt

theorem flip_flip {s : List UInt8} {m : Nat} (hm : m / 8 < s.length) : DiskM.flip (DiskM.flip s m) m = s := by
  unfold DiskM.flip
  rw [List.set_set]
  have h1 : (s.set (m / 8) (s.getD (m / 8) 0 ^^^ 1 <<< UInt8.ofNat (m % 8))).getD (m / 8) 0 = s.getD (m / 8) 0 ^^^ 1 <<< UInt8.ofNat (m % 8) := by
    rw [List.getD_eq_getElem?_getD, List.getElem?_set]; simp [hm]
  rw [h1, UInt8.xor_assoc, UInt8.xor_self, UInt8.xor_zero, List.getD_eq_getElem?_getD, List.getElem?_eq_getElem hm, Option.getD_some]
  exact List.set_getElem_self hm
theorem rot_content {D : DiskM} {i m : Nat} (hi : i < D.n) (hm : m < 512) : ∃ D1, D.rot (i : Int) (m : Int) = (D1, 0) ∧ D1.n = D.n ∧ ∀ k, D1.content k = if k = i then DiskM.flip (D.content i) m else D.content k := by
  refine ⟨(D.rot (i : Int) (m : Int)).1, ?_, rot_n D _ _, fun k => ?_⟩
  · unfold DiskM.rot; rw [if_pos ⟨DiskM.has_iff.2 (by omega), by omega, by omega⟩]
  · unfold DiskM.rot; rw [if_pos ⟨DiskM.has_iff.2 (by omega), by omega, by omega⟩]
    simp only [DiskM.content, fupd, Int.toNat_natCast]
    by_cases h : k = i
    · subst h
      simp only [if_true]
      cases D.cache k <;> rfl
    · simp only [if_neg h]
structure RPlan (D D1 D2 D3 : DiskM) (N i m : Nat) (s : List UInt8) : Prop where
  n0 : D.n = N
  hs : (strB D N)[i]? = some (strV s)
  l : s.length = 64
  e1 : D.rot (i : Int) (m : Int) = (D1, 0)
  e2 : D1.flush = D2
  e3 : D2.rot (i : Int) (m : Int) = (D3, 0)
  n1 : D1.n = N
  n2 : D2.n = N
  n3 : D3.n = N
  s1 : (strB D N).set i (strV (DiskM.flip s m)) = strB D1 N
  s2 : strB D1 N = strB D2 N
  s3 : strB D N = strB D3 N
theorem rplan_ex (D : DiskM) (N i m : Nat) (hw : D.WF) (hD : D.n = N) (hi : i < N) (hm : m < 512) : ∃ D1 D2 D3, RPlan D D1 D2 D3 N i m (D.content i) := by
  obtain ⟨D1, e1, n1, c1⟩ := rot_content (D := D) (i := i) (m := m) (by omega) hm
  have hl := DiskM.content_length hw (i := i) (by omega)
  have c2 : ∀ k, D1.flush.content k = D1.content k := fun k => rfl
  have n2 : D1.flush.n = D1.n := rfl
  generalize hD2 : D1.flush = D2 at c2 n2
  obtain ⟨D3, e3, n3, c3⟩ := rot_content (D := D2) (i := i) (m := m) (by omega) hm
  refine ⟨D1, D2, D3, hD, by simp [strB, hi], hl, e1, hD2, e3, by omega, by omega, by omega, strB_set fun k _ => c1 k, strB_congr fun k _ => (c2 k).symm, strB_congr fun k _ => ?_⟩
  rw [c3]
  by_cases h : k = i
  · subst h
    rw [if_pos rfl, c2, c1, if_pos rfl, flip_flip (by omega)]
  · rw [if_neg h, c2, c1, if_neg h]

theorem rowS_get {w : World} {v : Value} {l : List ByteArray} {X : HProp} (h : Sat w (rowS v l * X)) (hl : 0 < l.length) :
    ∃ g cap, v = .slice (some ⟨g, 0, none⟩) l.length cap ∧ ∀ (w' : World) (X' : HProp), Sat w' (rowS v l * X') → ∀ j x, l[j]? = some x → w'.cell? ⟨g, j, none⟩ = some (.string x) := by
  obtain ⟨g, cap, rfl, _⟩ := ownAt_cells h hl
  refine ⟨g, cap, rfl, fun w' X' h' j x hj => ?_⟩
  obtain ⟨g', cap', he, hc⟩ := ownAt_cells h' hl
  injection he with h1 h2 h3
  obtain rfl : g = g' := by simpa using h1
  exact hc j _ (by rw [List.getElem?_map, hj]; rfl)

/-- '[]byte(s)', the new block as a resource. -/
theorem conv_own {s : List UInt8} {S : ByteArray} {F : HProp} {W : World} (hs : s.length = 64) (hS : strV s = S) (hF : Sat W F) : ∃ (W' : World) (g cap : Nat) (c : Array Value) (fr : Nat × Nat),
    (convert 9 56 (.string S)).run Try.prog W = .ok (.slice (some ⟨g, 0, none⟩) 64 cap) W' ∧ Same W W' ∧ Sat W' (pts g (.cells c TB fr) * F) ∧ 64 ≤ fr.1 ∧ 64 ≤ c.size ∧ ∀ (j : Nat) (u : Value), (secL s)[j]? = some u → c[j]? = some u := by
  subst hS
  have h := run_bytes_of_string (P := Try.prog) W 9 56 5 (strV s) Try.underlying9 Try.underlying56 Try.underlying5
  have hsz : (strV s).size = 64 := by show s.toArray.size = 64; simpa using hs
  have hge : 64 ≤ (bytesRow (strV s) (grownCap W (strV s).size 0 5)).size := by
    unfold bytesRow
    rw [Array.size_append, Array.size_map]
    have : (strV s).data.size = 64 := hsz
    omega
  have hc : ∀ (j : Nat) (u : Value), (secL s)[j]? = some u → (bytesRow (strV s) (grownCap W (strV s).size 0 5))[j]? = some u := by
    intro j u hu
    have hj : j < s.length := by have := (List.getElem?_eq_some_iff.1 hu).1; simpa [secL] using this
    unfold bytesRow
    rw [Array.getElem?_append_left (by simpa [strV] using hj)]
    simpa [secL, strV, byteV] using hu
  rw [hsz] at h hge hc
  exact ⟨_, _, _, _, _, h, ((Same.refl W).drew).alloc _, hF.drew.alloc _, hge, hge, hc⟩

set_option maxHeartbeats 2000000 in
theorem rots_no (n i j : Int) (sv : Value) (l : List OpM) (w : World) (hsc : ScrAt w sv l) (h : ¬ ((0 ≤ n ∧ n ≤ 40 ∧ l.length ≤ 200) ∧ 0 ≤ i ∧ i < n ∧ 0 ≤ j ∧ j < 512)) :
    Calls Try.prog 8 #[.int .i64 n, sv, .int .i64 i, .int .i64 j] w fun e w' => e = .returned (.bool true) ∧ Below w.heap.size w w' := by
  obtain ⟨ao, cap, rfl, _⟩ := hsc
  by_cases hf : 0 ≤ n ∧ n ≤ 40 ∧ l.length ≤ 200
  · have c1 := few_yes n ao l.length cap w hf.1 hf.2.1 hf.2.2
    by_cases h0 : 0 ≤ i
    · have q0 : decide (i < 0) = false := decide_eq_false (by omega)
      by_cases h1 : i < n
      · have q1 : decide (n ≤ i) = false := decide_eq_false (by omega)
        by_cases h2 : 0 ≤ j
        · have q2 : decide (j < 0) = false := decide_eq_false (by omega)
          have q3 : decide (512 ≤ j) = true := decide_eq_true (by by_cases h3 : 512 ≤ j; exact h3; exact absurd ⟨hf, h0, h1, h2, by omega⟩ h)
          clear h h0 h1 h2 hf
          go_enter Try.func8, Try.ntmps8
          go_wp2_with (first
            | (go_at_call 10; refine c1.mono ?_; rintro e w' ⟨rfl, hw⟩; subst hw)
            | (go_at_call 11; refine (sanity_any _).mono ?_; rintro e w' ⟨rfl, hb⟩; replace hb := Lib.hid hb))
          go_ret
          exact ⟨rfl, hb.out⟩
        · have q2 : decide (j < 0) = true := decide_eq_true (by omega)
          clear h h0 h1 h2 hf
          go_enter Try.func8, Try.ntmps8
          go_wp2_with (first
            | (go_at_call 10; refine c1.mono ?_; rintro e w' ⟨rfl, hw⟩; subst hw)
            | (go_at_call 11; refine (sanity_any _).mono ?_; rintro e w' ⟨rfl, hb⟩; replace hb := Lib.hid hb))
          go_ret
          exact ⟨rfl, hb.out⟩
      · have q1 : decide (n ≤ i) = true := decide_eq_true (by omega)
        clear h h0 h1 hf
        go_enter Try.func8, Try.ntmps8
        go_wp2_with (first
          | (go_at_call 10; refine c1.mono ?_; rintro e w' ⟨rfl, hw⟩; subst hw)
          | (go_at_call 11; refine (sanity_any _).mono ?_; rintro e w' ⟨rfl, hb⟩; replace hb := Lib.hid hb))
        go_ret
        exact ⟨rfl, hb.out⟩
    · have q0 : decide (i < 0) = true := decide_eq_true (by omega)
      clear h h0 hf
      go_enter Try.func8, Try.ntmps8
      go_wp2_with (first
        | (go_at_call 10; refine c1.mono ?_; rintro e w' ⟨rfl, hw⟩; subst hw)
        | (go_at_call 11; refine (sanity_any _).mono ?_; rintro e w' ⟨rfl, hb⟩; replace hb := Lib.hid hb))
      go_ret
      exact ⟨rfl, hb.out⟩
  · have c1 := few_no n ao l.length cap w hf
    clear h hf
    go_enter Try.func8, Try.ntmps8
    go_wp2_with (first
      | (go_at_call 10; refine c1.mono ?_; rintro e w' ⟨rfl, hw⟩; subst hw)
      | (go_at_call 11; refine (sanity_any _).mono ?_; rintro e w' ⟨rfl, hb⟩; replace hb := Lib.hid hb))
    go_ret
    exact ⟨rfl, hb.out⟩

set_option linter.unusedSimpArgs false in
set_option maxHeartbeats 4000000 in
set_option maxRecDepth 20000 in
theorem rots_yes (N i m : Nat) (sv : Value) (l : List OpM) (w : World) (hsc : ScrAt w sv l) (hN : N ≤ 40) (hl : l.length ≤ 200) (hi : i < N) (hm : m < 512) :
    Calls Try.prog 8 #[.int .i64 (N : Int), sv, .int .i64 (i : Int), .int .i64 (m : Int)] w fun e w' => e = .returned (.bool true) ∧ Below w.heap.size w w' := by
  obtain ⟨ao, cap, rfl, hsr⟩ := hsc
  have HSR := Lib.hid hsr
  clear hsr
  have HO := Lib.hid (Sat.old w)
  have c1 := few_yes (N : Int) ao l.length cap w (by omega) (by omega) hl
  have q0 : decide ((i : Int) < 0) = false := decide_eq_false (by omega)
  have q1 : decide ((N : Int) ≤ (i : Int)) = false := decide_eq_false (by omega)
  have q2 : decide ((m : Int) < 0) = false := decide_eq_false (by omega)
  have q3 : decide (512 ≤ (m : Int)) = false := decide_eq_false (by omega)
  have hm8 : m / 8 < 64 := by omega
  have hm1 : (0 : Int) ≤ (m : Int) := by omega
  have hm2 : (m : Int) < 512 := by omega
  obtain ⟨ti5, hti5, hz05, hts5, hz25⟩ := info_parts (show (Try.prog.info? TB).map (fun i => (i.zero, i.size, i.bytes)) = some (some (.int .u8 0), 1, 1) from by kernel_rfl)
  obtain ⟨ti, hti, hz0, hts, hz2⟩ := info_parts info_str
  go_enter Try.func8, Try.ntmps8
  go_upto_region 4 with (first
    | (go_at_call 10; refine c1.mono ?_; rintro e w' ⟨rfl, hw⟩; subst hw)
    | (go_at_call 12; refine (new_any (N : Int) (emp * old w) w ((emp_star (old w)).symm ▸ HO.out)).mono ?_; rintro e w1 ⟨p, rfl, H1⟩; replace H1 := Lib.hid H1))
  go_wp2
  go_loopw [43] (fun i wr => LoopSt w p (DiskM.new (N : Int)) l (emp) i wr) (fun i _ => l.length - (intOf i).toNat)
  case atStart => exact ⟨⟨0, Nat.zero_le _, rfl, H1.out⟩⟩
  case round =>
    obtain ⟨k, hk, rfl, hsmr, hsr⟩ := hrel.st
    clear hrel
    have H2 := Lib.hid (And.intro hsmr hsr)
    by_cases hlt : k < l.length
    · obtain ⟨o, ho⟩ : ∃ o, l[k]? = some o := ⟨_, List.getElem?_eq_getElem hlt⟩
      obtain ⟨b, off, rfl, hro⟩ := HSR.out (by rintro rfl; simp at hlt)
      obtain ⟨pv, hro1, hint⟩ := hro k o ho
      have hrow : wr.rangeAt b (off + k * 6) (opA o pv).toList := fun t u hu => (World.cell?_of_block ((hsr.perm (show _ = (diskAt TD TS p (runM (DiskM.new (N : Int)) (l.take k)) * (emp)) * old w from by ac_rfl)).of_old b (World.block_lt_of_cell? w ⟨b, off + k * 6 + t, none⟩ (hro1 t u hu)))).trans (hro1 t u hu)
      have hone := IntsAt.one hint
      have hltd : decide ((k : Int) < (l.length : Int)) = true := decide_eq_true (by omega)
      have hki : (k : Int) ≤ 200 := by omega
      have HO := Lib.hid ho
      have HI := Lib.hid (show ∀ w', Sat w' ((emp) * old w) → IntsAt w' pv o.picks from fun w' h => IntsAt.old hint h)
      clear ho hro hro1 hsmr hsr hint
      go_wp2_with (first
        | ((with_reducible (apply wp_load_scr hrow)); rfl; rfl; rfl)
        | ((with_reducible (refine wpList_alloc_zero ?_ TOp ?_ _ (zeroTOp _) ?_)); rfl; rfl)
        | ((with_reducible (apply wp_store_opf hone)); rfl; rfl; rfl; rfl)
        | ((with_reducible (apply wp_load_opf)); rfl; rfl; rfl)
        | (go_at_call 15; refine (do_any p _ _ o pv _ (H2.out.2.allocKeep _) HI.out).mono ?_; rintro e w' ⟨rfl, h2⟩; replace H2 := Lib.hid (And.intro ((H2.out.1.alloc _).trans h2.out.1) h2.out.2); clear h2))
      go_roundw
      case rel => exact ⟨⟨k + 1, hlt, rfl, H2.out.1, by rw [runM_take _ HO.out]; exact H2.out.2⟩⟩
      case measure => simp only [intOf]; omega
    · obtain rfl : k = l.length := by omega
      have hltd : decide ((l.length : Int) < (l.length : Int)) = false := decide_eq_false (by omega)
      clear hsmr hsr
      obtain ⟨D, hD⟩ : ∃ D, D = runM (DiskM.new (N : Int)) l := ⟨_, rfl⟩
      have hDn : D.n = N := by rw [hD, runM_n]; simp only [DiskM.new]; omega
      replace H1 := Lib.hid (show Same w wr ∧ Sat wr (diskAt TD TS p D * (emp * old w)) by have := H2.out; rw [runM_all, ← hD] at this; exact this)
      clear H2 hD
      obtain ⟨D1, D2, D3, pl⟩ := rplan_ex D N i m (diskAt_wf H1.out.2) hDn hi hm
      generalize D.content i = s at pl
      have PL := Lib.hid pl
      clear pl hDn
      go_upto_region 12 with (go_at_call 22; refine (step_contents H1.out.2 PL.out.n0).mono ?_; rintro e w' ⟨ov, rfl, h2⟩; replace H1 := Lib.hid (And.intro (H1.out.1.trans h2.out.1) h2.out.2); clear h2)
      obtain ⟨g1, cap1, hv, hget⟩ := rowS_get H1.out.2 (by rw [strB_length]; omega)
      rw [strB_length] at hv
      subst hv
      have HG := Lib.hid hget
      clear hget
      replace H1 := Lib.hid (show Same w _ ∧ Sat _ (diskAt TD TS p D * (rowS (.slice (some ⟨g1, 0, none⟩) N cap1) (strB D N) * old w)) from ⟨H1.out.1, by have := H1.out.2; rw [emp_star] at this; exact this.perm (by ac_rfl)⟩)
      generalize hSV : strV s = S
      have HSV := Lib.hid hSV
      have hsz : S.size = 64 := by rw [← hSV]; show s.toArray.size = 64; simpa using PL.out.l
      have hbi := PL.out.hs
      rw [hSV] at hbi
      have HBI := Lib.hid hbi
      have ci := HG.out _ _ (H1.out.2.perm (show _ = rowS (.slice (some ⟨g1, 0, none⟩) N cap1) (strB D N) * (diskAt TD TS p D * old w) from by ac_rfl)) i S hbi
      clear hSV hbi
      have hni : (i : Int) < (N : Int) := by omega
      have hn0 : (0 : Int) ≤ (i : Int) := by omega
      go_upto_region 14 with (go_at_call 30; refine (step_rot (D' := D1) (k := 0) (i : Int) (m : Int) H1.out.2 PL.out.e1).mono ?_; rintro e w' ⟨rfl, h2⟩; replace H1 := Lib.hid (And.intro (H1.out.1.trans h2.out.1) h2.out.2); clear h2)
      clear ci
      have ci := HG.out _ _ (H1.out.2.perm (show _ = rowS (.slice (some ⟨g1, 0, none⟩) N cap1) (strB D N) * (diskAt TD TS p D1 * old w) from by ac_rfl)) i S HBI.out
      obtain ⟨W2, g2, cap2, c, fr, hcv, hsm2, hs2, hfr1, hcz, hcc⟩ := conv_own PL.out.l HSV.out H1.out.2
      have H3 := Lib.hid (And.intro (H1.out.1.trans hsm2) hs2)
      clear hsm2 H1 hs2
      have HC := Lib.hid hcc
      clear hcc
      go_upto_region 15 with ((with_reducible (refine wpList_run ?_ (exec_convert ?_ ?_ hcv) ?_)); rfl; rfl; rfl)
      clear hcv ci
      obtain ⟨x, hx⟩ : ∃ x, x = s.getD (m / 8) 0 := ⟨_, rfl⟩
      have hcell : W2.cell? ⟨g2, 0 + m / 8 * 1, none⟩ = some (.int .u8 (x.toNat : Int)) := by
        rw [cells_at H3.out.2.block, hx, show 0 + m / 8 * 1 = m / 8 by omega]
        exact HC.out _ _ (secL_at PL.out.l hm8)
      have hfr : W2.frozen? ⟨g2, 0 + m / 8 * 1, none⟩ = false := by
        simp only [World.frozen?, H3.out.2.block]
        simp; omega
      have HX := Lib.hid hx
      clear hx
      have hS0 : W2.drew.cell? ⟨g2, 0 + m / 8 * 1, none⟩ = some (.int .u8 (x.toNat : Int)) := hcell
      refine reg_begin (fun w' => w'.cell? ⟨g2, 0 + m / 8 * 1, none⟩ = some (.int .u8 (x.toNat : Int))) (by kernel_rfl) ?_
      (apply reg_take 0 rfl rfl (by decide +kernel) rfl); (intro w' hw'; go_simp; rfl); exact hS0; simp only [List.setIfInBounds_toArray, List.set_cons_succ, List.set_cons_zero]
      (apply reg_take 1 rfl rfl (by decide +kernel) rfl); (intro w' hw'; go_simp; rfl); exact hS0; simp only [List.setIfInBounds_toArray, List.set_cons_succ, List.set_cons_zero]
      refine reg_take 2 (v := .int .i64 ((m / 8 : Nat) : Int)) rfl rfl (by decide +kernel) rfl (fun w' _ => exec_binop rfl rfl rfl rfl (run_quo_nat _ m 8 (by omega) (by decide) w')) hS0 ?_; simp only [List.setIfInBounds_toArray, List.set_cons_succ, List.set_cons_zero]
      refine reg_take 3 (v := .pointer (some ⟨g2, 0 + m / 8 * 1, none⟩)) rfl rfl (by decide +kernel) rfl (fun _ _ => exec_index_slice rfl rfl rfl Try.underlying56 hti5 hts5 hm8) hS0 ?_; simp only [List.setIfInBounds_toArray, List.set_cons_succ, List.set_cons_zero]
      refine reg_take 4 (v := .int .u8 (x.toNat : Int)) rfl rfl (by decide +kernel) rfl (fun _ h => exec_load_cell rfl rfl Try.underlying5 rfl h) hS0 ?_; simp only [List.setIfInBounds_toArray, List.set_cons_succ, List.set_cons_zero]
      (apply reg_take 5 rfl rfl (by decide +kernel) rfl); (intro w' hw'; go_simp; rfl); exact hS0; simp only [List.setIfInBounds_toArray, List.set_cons_succ, List.set_cons_zero]
      refine reg_take 6 (v := .int .i64 ((m % 8 : Nat) : Int)) rfl rfl (by decide +kernel) rfl (fun w' _ => exec_binop rfl rfl rfl rfl (run_rem_nat _ m 8 (by decide) w')) hS0 ?_; simp only [List.setIfInBounds_toArray, List.set_cons_succ, List.set_cons_zero]
      refine reg_take 7 (v := .int .u8 ((1 <<< UInt8.ofNat (m % 8) : UInt8).toNat : Int)) rfl rfl (by decide +kernel) rfl (fun w' _ => exec_binop rfl rfl rfl rfl (run_shl_u8 _ (m % 8) (Nat.mod_lt _ (by decide)) w')) hS0 ?_; simp only [List.setIfInBounds_toArray, List.set_cons_succ, List.set_cons_zero]
      refine reg_take 8 (v := .int .u8 ((x ^^^ 1 <<< UInt8.ofNat (m % 8) : UInt8).toNat : Int)) rfl rfl (by decide +kernel) rfl (fun w' _ => exec_binop rfl rfl rfl rfl (run_xor_u8 _ x _ w')) hS0 ?_; simp only [List.setIfInBounds_toArray, List.set_cons_succ, List.set_cons_zero]
      refine reg_take 9 (v := .pointer (some ⟨g2, 0 + m / 8 * 1, none⟩)) rfl rfl (by decide +kernel) rfl (fun _ _ => exec_index_slice rfl rfl rfl Try.underlying56 hti5 hts5 hm8) hS0 ?_; simp only [List.setIfInBounds_toArray, List.set_cons_succ, List.set_cons_zero]
      refine reg_do_last 10 (W2.drew.setCell ⟨g2, 0 + m / 8 * 1, none⟩ (.int .u8 ((x ^^^ 1 <<< UInt8.ofNat (m % 8) : UInt8).toNat : Int))) rfl rfl (by decide +kernel) rfl (exec_store_cell rfl rfl rfl hti5 hts5 rfl hcell hfr) ?_
      have hS4 := H3.out.2.drew.setCell (i := 0 + m / 8 * 1) (.int .u8 ((x ^^^ 1 <<< UInt8.ofNat (m % 8) : UInt8).toNat : Int))
      have hsm4 := H3.out.1.drew.setCell ⟨g2, 0 + m / 8 * 1, none⟩ (.int .u8 ((x ^^^ 1 <<< UInt8.ofNat (m % 8) : UInt8).toNat : Int))
      generalize W2.drew.setCell ⟨g2, 0 + m / 8 * 1, none⟩ (.int .u8 ((x ^^^ 1 <<< UInt8.ofNat (m % 8) : UInt8).toNat : Int)) = W3 at hS4 hsm4 ⊢
      clear hcell hfr hS0
      obtain ⟨c', hc'⟩ : ∃ c', c' = c.setIfInBounds (0 + m / 8 * 1) (.int .u8 ((x ^^^ 1 <<< UInt8.ofNat (m % 8) : UInt8).toNat : Int)) := ⟨_, rfl⟩
      rw [← hc'] at hS4
      have hcc' : ∀ j (hj : j < (DiskM.flip s m).length), c'[j]? = some (.int .u8 ((DiskM.flip s m)[j].toNat : Int)) := by
        intro j hj
        have hl' := PL.out.l
        rw [DiskM.flip_length, hl'] at hj
        have h1 : (secL (DiskM.flip s m))[j]? = some (.int .u8 ((DiskM.flip s m)[j].toNat : Int)) := by
          simp [secL, byteV, DiskM.flip_length, hl', hj]
        rw [← h1, secL_flip, hc', Array.getElem?_setIfInBounds, List.getElem?_set, show 0 + m / 8 * 1 = m / 8 by omega, HX.out]
        by_cases he : m / 8 = j
        · rw [if_pos he, if_pos he, if_pos (by omega), if_pos (by rw [secL_length, hl']; omega)]; rfl
        · rw [if_neg he, if_neg he, HC.out j _ (List.getElem?_eq_getElem (by rw [secL_length, hl']; omega))]
          exact (List.getElem?_eq_getElem _).symm
      have H4 := Lib.hid (And.intro hsm4 hS4)
      have HCC := Lib.hid hcc'
      clear hS4 hsm4 hc' hcc' H3
      have hrow : Sat (W3.alloc (.cells #[] TStr)) (ownAt TStr 1 (.slice (some ⟨W3.heap.size, 0, none⟩) 0 0) 0 [] * (pts g2 (.cells c' TB fr) * (diskAt TD TS p D1 * (rowS (.slice (some ⟨g1, 0, none⟩) N cap1) (strB D N) * old w)))) :=
        ownAt_iff.2 (.inr ⟨W3.heap.size, 0, #[], ⟨rfl, Nat.le_refl _, Nat.zero_le _, rfl, rfl, rfl⟩, H4.out.2.alloc _⟩)
      have hnew : ∀ j u, ((strB D N).map Value.string)[j]? = some u → (W3.alloc (.cells #[] TStr)).cell? ((⟨g1, 0, none⟩ : Addr).add j) = some u := by
        intro j u hu
        rw [List.getElem?_map, Option.map_eq_some_iff] at hu
        obtain ⟨y, hy, rfl⟩ := hu
        rw [Addr.add_mid, Nat.zero_add]
        exact HG.out _ _ ((H4.out.2.allocKeep _).perm (show _ = rowS (.slice (some ⟨g1, 0, none⟩) N cap1) (strB D N) * (pts g2 (.cells c' TB fr) * (diskAt TD TS p D1 * old w)) from by ac_rfl)) j y hy
      have HR := Lib.hid hrow
      have HNW := Lib.hid hnew
      clear hrow hnew
      go_upto_region 17 with (at_builtin; refine wpList_append_ownAt rfl _ _ 42 TStr rfl ti _ Try.underlying42 hti hz0 hts hz2 rfl HR.out ((strB D N).map Value.string) rfl rfl (by simp [strB_length]) HNW.out (by intro u hu; simp at hu; obtain ⟨y, _, rfl⟩ := hu; rfl) (by unfold maxLen; omega) (by omega) ?_; intro nv W4 h2)
      have H5 := Lib.hid (show Same w W4 ∧ Sat W4 (rowS nv (strB D N) * (pts g2 (.cells c' TB fr) * (diskAt TD TS p D1 * (rowS (.slice (some ⟨g1, 0, none⟩) N cap1) (strB D N) * old w)))) from ⟨(H4.out.1.alloc _).trans h2.out.1, by have := h2.out.2; rw [Nat.zero_add, List.nil_append] at this; rw [show rowS nv (strB D N) = ownAt TStr 1 nv N ((strB D N).map Value.string) by unfold rowS; rw [strB_length]]; exact this⟩)
      clear h2 HR HNW
      obtain ⟨g3, cap3, hv, ⟨u, hu⟩, hfr, hset⟩ := rowS_at (j := i) H5.out.2 (by rw [strB_length]; omega)
      rw [strB_length] at hv
      subst hv
      have hcb : (convert 56 9 (.slice (some ⟨g2, 0, none⟩) 64 cap2)).run Try.prog W4 = .ok (.string (strV (DiskM.flip s m))) W4 := by
        have := run_convert_bytes_back (P := Try.prog) W4 56 9 5 ⟨g2, 0, none⟩ cap2 (DiskM.flip s m) Try.underlying56 Try.underlying5 Try.underlying9 (by
          intro j hj
          rw [Addr.add_mid, cells_at H5.out.2.right.block, Nat.zero_add, HCC.out j hj])
        rw [DiskM.flip_length, PL.out.l] at this; exact this
      have H6 := Lib.hid (And.intro (H5.out.1.setCell ⟨g3, i, none⟩ (.string (strV (DiskM.flip s m)))) (hset (strV (DiskM.flip s m))))
      clear hset H5 H4
      go_upto_region 18 with ((with_reducible (refine wpList_run ?_ (exec_convert ?_ ?_ hcb) ?_)); rfl; rfl; rfl)
      have H1 := Lib.hid (show Same w _ ∧ Sat _ (diskAt TD TS p D1 * (rowS (.slice (some ⟨g3, 0, none⟩) N cap3) (strB D1 N) * (rowS (.slice (some ⟨g1, 0, none⟩) N cap1) (strB D N) * old w))) from ⟨H6.out.1, by have := H6.out.2; rw [PL.out.s1] at this; exact (this.perm (show _ = pts g2 (.cells c' TB fr) * (diskAt TD TS p D1 * (rowS (.slice (some ⟨g3, 0, none⟩) N cap3) (strB D1 N) * (rowS (.slice (some ⟨g1, 0, none⟩) N cap1) (strB D N) * old w))) from by ac_rfl)).right⟩)
      clear hu hfr hcb H6
      have hE1 := fun (w' : World) (v : Value) (h : Sat w' (rowS v (strB D1 N) * (diskAt TD TS p D1 * (rowS (.slice (some ⟨g3, 0, none⟩) N cap3) (strB D1 N) * (rowS (.slice (some ⟨g1, 0, none⟩) N cap1) (strB D N) * old w))))) => step_equal (va := (.slice (some ⟨g3, 0, none⟩) N cap3)) (la := strB D1 N) h (fun w2 h2 => rowS_strs (h2.perm (show _ = rowS (.slice (some ⟨g3, 0, none⟩) N cap3) (strB D1 N) * (diskAt TD TS p D1 * (rowS (.slice (some ⟨g1, 0, none⟩) N cap1) (strB D N) * old w)) from by ac_rfl))) (by simp [strB_length]; omega) true (decide_eq_true (rfl))
      have hE2 := fun (w' : World) (v : Value) (h : Sat w' (rowS v (strB D2 N) * (diskAt TD TS p D2 * (rowS (.slice (some ⟨g3, 0, none⟩) N cap3) (strB D1 N) * (rowS (.slice (some ⟨g1, 0, none⟩) N cap1) (strB D N) * old w))))) => step_equal (va := (.slice (some ⟨g3, 0, none⟩) N cap3)) (la := strB D1 N) h (fun w2 h2 => rowS_strs (h2.perm (show _ = rowS (.slice (some ⟨g3, 0, none⟩) N cap3) (strB D1 N) * (diskAt TD TS p D2 * (rowS (.slice (some ⟨g1, 0, none⟩) N cap1) (strB D N) * old w)) from by ac_rfl))) (by simp [strB_length]; omega) true (decide_eq_true (PL.out.s2))
      have hE3 := fun (w' : World) (v : Value) (h : Sat w' (rowS v (strB D3 N) * (diskAt TD TS p D3 * (rowS (.slice (some ⟨g3, 0, none⟩) N cap3) (strB D1 N) * (rowS (.slice (some ⟨g1, 0, none⟩) N cap1) (strB D N) * old w))))) => step_equal (va := (.slice (some ⟨g1, 0, none⟩) N cap1)) (la := strB D N) h (fun w2 h2 => rowS_strs (h2.perm (show _ = rowS (.slice (some ⟨g1, 0, none⟩) N cap1) (strB D N) * (diskAt TD TS p D3 * (rowS (.slice (some ⟨g3, 0, none⟩) N cap3) (strB D1 N) * old w)) from by ac_rfl))) (by simp [strB_length]; omega) true (decide_eq_true (PL.out.s3))
      go_upto_region 20 with (first
        | (go_at_call 22; refine (step_contents H1.out.2 PL.out.n1).mono ?_; rintro e w' ⟨cv, rfl, h2⟩; replace H1 := Lib.hid (And.intro (H1.out.1.trans h2.out.1) h2.out.2); clear h2)
        | (go_at_call 28; (with_reducible refine (hE1 _ _ ?_).mono ?_); exact H1.out.2; rintro e w' ⟨rfl, h2⟩; replace H1 := Lib.hid (And.intro (H1.out.1.trans h2.out.1) h2.out.2); clear h2))
      go_upto_region 21 with (go_at_call 20; refine (step_flush (D' := D2) H1.out.2 PL.out.e2).mono ?_; rintro e w' ⟨rfl, h2⟩; replace H1 := Lib.hid (And.intro (H1.out.1.trans h2.out.1) h2.out.2); clear h2)
      go_wp2_with (first
        | (go_at_call 11; refine (sanity_any _).mono ?_; rintro e w' ⟨rfl, hb⟩; replace H1 := Lib.hid (And.intro (H1.out.1.below hb) (H1.out.2.below hb)); clear hb)
        | (go_at_call 22; refine (step_contents H1.out.2 (by first | exact PL.out.n2 | exact PL.out.n3)).mono ?_; rintro e w' ⟨cv, rfl, h2⟩; replace H1 := Lib.hid (And.intro (H1.out.1.trans h2.out.1) h2.out.2); clear h2)
        | (go_at_call 28; (with_reducible refine (hE2 _ _ ?_).mono ?_); exact H1.out.2; rintro e w' ⟨rfl, h2⟩; replace H1 := Lib.hid (And.intro (H1.out.1.trans h2.out.1) h2.out.2); clear h2)
        | (go_at_call 30; refine (step_rot (D' := D3) (k := 0) (i : Int) (m : Int) H1.out.2 PL.out.e3).mono ?_; rintro e w' ⟨rfl, h2⟩; replace H1 := Lib.hid (And.intro (H1.out.1.trans h2.out.1) h2.out.2); clear h2)
        | (go_at_call 28; (with_reducible refine (hE3 _ _ ?_).mono ?_); exact H1.out.2; rintro e w' ⟨rfl, h2⟩; replace H1 := Lib.hid (And.intro (H1.out.1.trans h2.out.1) h2.out.2); clear h2))
      go_ret
      exact ⟨rfl, H1.out.1.below_of (H1.out.2.perm (show _ = diskAt TD TS p D3 * (rowS (.slice (some ⟨g3, 0, none⟩) N cap3) (strB D1 N) * rowS (.slice (some ⟨g1, 0, none⟩) N cap1) (strB D N)) * old w from by ac_rfl))⟩

theorem rots_any (n i j : Int) (sv : Value) (l : List OpM) (w : World) (hsc : ScrAt w sv l) :
    Calls Try.prog 8 #[.int .i64 n, sv, .int .i64 i, .int .i64 j] w fun e w' => e = .returned (.bool true) ∧ Below w.heap.size w w' := by
  by_cases h : (0 ≤ n ∧ n ≤ 40 ∧ l.length ≤ 200) ∧ 0 ≤ i ∧ i < n ∧ 0 ≤ j ∧ j < 512
  · obtain ⟨⟨h0, h1, h2⟩, h3, h4, h5, h6⟩ := h
    obtain ⟨N, rfl⟩ := Int.eq_ofNat_of_zero_le h0
    obtain ⟨I, rfl⟩ := Int.eq_ofNat_of_zero_le h3
    obtain ⟨J, rfl⟩ := Int.eq_ofNat_of_zero_le h5
    exact rots_yes N I J sv l w hsc (by omega) h2 (by omega) (by omega)
  · exact rots_no n i j sv l w hsc h

set_option maxRecDepth 100000 in
theorem diskRots_lifted (os : Os) (started : os.Started) (H : Type) (enc : TypeId × Value → H) :
    ReturnsInHanded {} Try.checked os 8 .any (Rows.diskRotsSpec.pre6 enc Try.prog Try.f8 Rows.diskRotsRow.domain false) (Rows.diskRotsSpec.post enc Try.prog Try.f8 false true false false) := by
  refine returnsInHanded_of_change (C := Try.checked) law_own started (by kernel_rfl) Try.func8
    (ChangeSpec.witness6 (enc := enc) (C := Try.checked) false ⟨#[], #[.int .i64 0, .slice none 0 0, .int .i64 0, .int .i64 0], []⟩ 8 (by kernel_rfl) (by kernel_rfl) (by kernel_rfl) (by kernel_rfl)) ?_
  intro W base args ds gs before hval0 hW _ _
  have hval : ∀ (j : Nat) t v, Try.f8.params[j]? = some t → args[j]? = some v → Value.okWide Try.prog W .any base t v := hval0
  have hW' := hW
  obtain ⟨p, q, hA0, hV, rfl, _, _⟩ := hW
  have hA : DataW.TrodAll enc Try.prog W 0 (fun _ => true) true Try.f8.params.toList args.toList ds p := hA0
  rw [Try.params8] at hA hval
  obtain ⟨w0, vs0, d0, ds0, p0, q0, hargs, rfl, rfl, h0, r0⟩ := trodAll_cons hA
  obtain ⟨w1, vs1, d1, ds1, p1, q1, rfl, rfl, rfl, h1, r1⟩ := trodAll_cons r0
  obtain ⟨w2, vs2, d2, ds2, p2, q2, rfl, rfl, rfl, h2, r2⟩ := trodAll_cons r1
  obtain ⟨w3, vs3, d3, ds3, p3, q3, rfl, rfl, rfl, h3, r3⟩ := trodAll_cons r2
  obtain ⟨rfl, rfl, rfl⟩ := trodAll_nil r3
  obtain rfl : args = #[w0, w1, w2, w3] := by cases args; simp_all
  obtain ⟨rfl, rfl⟩ := trodVars_none hV
  obtain ⟨a0, rfl, rfl, rfl, _⟩ := open_int Try.underlying3 (hval 0 3 w0 rfl rfl) h0
  obtain ⟨v1, l1, e1, s1⟩ := rd_script (trod_rd h1)
  obtain ⟨x1, y1, z1, rfl⟩ := okWide_slice Try.underlying22 (hval 1 _ w1 rfl rfl)
  obtain rfl : .slice x1 y1 z1 = v1 := by simpa [Value.cells] using e1
  obtain ⟨a2, rfl, rfl, rfl, _⟩ := open_int Try.underlying3 (hval 2 3 w2 rfl rfl) h2
  obtain ⟨a3, rfl, rfl, rfl, _⟩ := open_int Try.underlying3 (hval 3 3 w3 rfl rfl) h3
  refine (rots_any a0 a2 a3 _ l1 W s1).mono fun e W' ⟨he, hg⟩ => ?_
  subst he
  exact ⟨_, rfl, law_post (by kernel_rfl) rfl (of_decide_eq_true (by kernel_rfl)) rfl hW' hg⟩

theorem diskRots_holds : Rows.DiskRotsSaid :=
  OpenClaim.holds_of_wide 8 Try.f8 rfl rfl rfl rfl rfl rfl rfl ⟨rfl, rfl, rfl, rfl, rfl⟩ rfl rfl rfl rfl rfl (by kernel_rfl) Try.func8 (by kernel_rfl)
    (of_decide_eq_true (by kernel_rfl)) (by unfold Func.isWrapper; first | (rw [if_pos (by decide +kernel)]; kernel_rfl) | (rw [if_neg (by decide +kernel)]; exact ⟨rfl, rfl⟩))
    (fun os started H enc _ => diskRots_lifted os started H enc)

end Go.Proofs.Ytdeblpnkpefbcaa
