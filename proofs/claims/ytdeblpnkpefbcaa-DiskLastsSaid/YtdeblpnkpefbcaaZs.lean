/- DiskLasts: after a Flush and any writes, a power failure with any picks leaves a sector that was not written since the Flush as it was, and every other one with a prefix of what it contained, followed by the rest of what it contained at the Flush. No condition. -/
import Derived.Test.YtdeblpnkpefbcaaLm
namespace Go.Proofs.Ytdeblpnkpefbcaa
open Go.RowKit Go.Sl Go.ChangeMaps Go.ChangeShapes Go.WideShapes Go.ChangeAt

structure WInv (D2 D : DiskM) (N : Nat) (kv : KV) : Prop where
  n : D.n = N
  armed : ∀ i, D.armed i = none
  dur : ∀ i, D.dur i = D2.dur i
  wr : ∀ i : Nat, i < N → lk kv (i : Int) = none → D.cache i = none
  vals : ∀ k v, lk kv k = some v → v = .bool true
theorem WInv.write {D2 D : DiskM} {N : Nat} {kv : KV} (h : WInv D2 D N kv) {i : Int} {s : List UInt8} (hi : D.has i = true ∧ s.length = 64) : ∃ D', D.write i s = (D', 0) ∧ WInv D2 D' N (upd kv i (.bool true)) := by
  have h2 := DiskM.has_iff.1 hi.1
  obtain ⟨k, rfl⟩ := Int.eq_ofNat_of_zero_le h2.1
  have e : D.write (k : Int) s = (D.put k s, 0) := by unfold DiskM.write; rw [if_pos hi, Int.toNat_natCast]
  have ep : D.put k s = { D with cache := fupd D.cache k (some s) } := by unfold DiskM.put; rw [h.armed k]
  refine ⟨_, e, ?_⟩
  rw [ep]
  refine ⟨h.n, h.armed, h.dur, fun i hlt hk => ?_, fun k' v hv => ?_⟩
  · rw [lk_upd] at hk
    split at hk
    · cases hk
    · simp only [fupd]
      rw [if_neg (by omega)]
      exact h.wr i hlt hk
  · rw [lk_upd] at hv
    split at hv
    · exact (Option.some.inj hv).symm
    · exact h.vals k' v hv
structure LPlan (D2 D D4 : DiskM) (N : Nat) (kv : KV) : Prop where
  n4 : D4.n = N
  p4 : D4.pending = []
  l2 : ∀ i, i < N → (D2.content i).length = 64
  l3 : ∀ i, i < N → (D.content i).length = 64
  l4 : ∀ i, i < N → (D4.content i).length = 64
  mix : ∀ i, i < N → ∃ c, c ≤ 64 ∧ D4.content i = (D.content i).take c ++ (D2.content i).drop c
  keep : ∀ i : Nat, i < N → lk kv (i : Int) = none → D4.content i = D2.content i
theorem lplan_ex {D2 D : DiskM} {N : Nat} {kv : KV} (h : WInv D2 D N kv) (h2c : ∀ i, D2.cache i = none) (h2n : D2.n = N) (w2 : D2.WF) (w3 : D.WF) (picks : List Int) : LPlan D2 D (D.cut picks) N kv := by
  have c2 : ∀ i, D2.content i = D2.dur i := fun i => by simp [DiskM.content, h2c]
  have c4 : ∀ i, (D.cut picks).content i = match D.cache i with | none => D.dur i | some s => DiskM.torn s (D.dur i) (picks.getD (D.rank i) 0) := fun i => rfl
  refine ⟨h.n, ?_, fun i hi => DiskM.content_length w2 (by omega), fun i hi => DiskM.content_length w3 (by rw [h.n]; exact hi), fun i hi => DiskM.content_length (w3.cut picks) (by show i < D.n; rw [h.n]; exact hi), fun i hi => ?_, fun i hi hk => ?_⟩
  · simp [DiskM.pending, DiskM.cut]
  · rw [c4, c2]
    cases hc : D.cache i with
    | none => exact ⟨0, by omega, by simp [h.dur]⟩
    | some s =>
      refine ⟨DiskM.clamp (picks.getD (D.rank i) 0), DiskM.clamp_le _, ?_⟩
      simp only [DiskM.torn, DiskM.content, hc, Option.getD_some, h.dur]
  · rw [c4, c2, h.wr i hi hk, h.dur]

theorem rowS_get {w : World} {v : Value} {l : List ByteArray} {X : HProp} (h : Sat w (rowS v l * X)) (hl : 0 < l.length) :
    ∃ g cap, v = .slice (some ⟨g, 0, none⟩) l.length cap ∧ ∀ (w' : World) (X' : HProp), Sat w' (rowS v l * X') → ∀ j x, l[j]? = some x → w'.cell? ⟨g, j, none⟩ = some (.string x) := by
  obtain ⟨g, cap, rfl, _⟩ := ownAt_cells h hl
  refine ⟨g, cap, rfl, fun w' X' h' j x hj => ?_⟩
  obtain ⟨g', cap', he, hc⟩ := ownAt_cells h' hl
  injection he with h1 h2 h3
  obtain rfl : g = g' := by simpa using h1
  exact hc j _ (by rw [List.getElem?_map, hj]; rfl)
theorem rowS_sl {w : World} {v : Value} {l : List ByteArray} {X : HProp} (h : Sat w (rowS v l * X)) : ∃ a c, v = .slice a l.length c := ownAt_slice h
theorem zeroBool (w : World) : (zeroValue 4).run Try.prog w = .ok (.bool false) w := by kernel_rfl

structure LastSt (w : World) (p N mb : Nat) (D2 : DiskM) (l : List OpM) (ov : Value) (i : Value) (wr : World) : Prop where
  st : ∃ (k : Nat) (es : Array MapEntry) (ck : Nat) (kv : KV) (D : DiskM), k ≤ l.length ∧ i = .int .i64 k ∧ Same w wr ∧ MapL es ck kv ∧ WInv D2 D N kv ∧ Sat wr (diskAt TD TS p D * (pts mb (.map es ck) * (rowS ov (strB D2 N) * old w)))
structure LastSt3 (w : World) (N : Nat) (X : HProp) (i : Value) (wr : World) : Prop where
  st : ∃ k : Nat, k ≤ N ∧ i = .int .i64 k ∧ Same w wr ∧ Sat wr X

theorem step_do {p : Nat} {D D' : DiskM} {F : HProp} {w : World} {o : OpM} {pv : Value} {k : Int} (hS : Sat w (diskAt TD TS p D * F)) (hpk : ∀ w', Sat w' F → IntsAt w' pv o.picks) (hd : doM D o = (D', k)) :
    Calls Try.prog 15 #[.pointer (some ⟨p, 0, none⟩), .agg (opA o pv)] w fun e w' => e = .returned (.int .i64 k) ∧ Hid (Same w w' ∧ Sat w' (diskAt TD TS p D' * F)) := by
  have := do_any p D F o pv w hS hpk
  rw [hd] at this; exact this

set_option maxHeartbeats 1000000 in
theorem lasts_no (n : Int) (sv mv pv : Value) (l m : List OpM) (w : World) (hsc : ScrAt w sv l) (hmc : ScrAt w mv m) (h : ¬ (0 ≤ n ∧ n ≤ 40 ∧ l.length ≤ 200 ∧ m.length ≤ 200)) :
    Calls Try.prog 5 #[.int .i64 n, sv, mv, pv] w fun e w' => e = .returned (.bool true) ∧ Below w.heap.size w w' := by
  obtain ⟨ao, cap, rfl, _⟩ := hsc
  obtain ⟨am, cam, rfl, _⟩ := hmc
  by_cases hf : 0 ≤ n ∧ n ≤ 40 ∧ l.length ≤ 200
  · have c1 := few_yes n ao l.length cap w hf.1 hf.2.1 hf.2.2
    have c2 := few_no n am m.length cam w (fun h' => h ⟨hf.1, hf.2.1, hf.2.2, h'.2.2⟩)
    clear h hf
    go_enter Try.func5, Try.ntmps5
    go_wp2_with (first
      | (go_at_call 10; (with_reducible refine c1.mono ?_); rintro e w' ⟨rfl, hw⟩; subst hw)
      | (go_at_call 10; (with_reducible refine c2.mono ?_); rintro e w' ⟨rfl, hw⟩; subst hw)
      | (go_at_call 11; refine (sanity_any _).mono ?_; rintro e w' ⟨rfl, hb⟩; replace hb := Lib.hid hb))
    go_ret
    exact ⟨rfl, hb.out⟩
  · have c1 := few_no n ao l.length cap w hf
    clear h hf
    go_enter Try.func5, Try.ntmps5
    go_wp2_with (first
      | (go_at_call 10; refine c1.mono ?_; rintro e w' ⟨rfl, hw⟩; subst hw)
      | (go_at_call 11; refine (sanity_any _).mono ?_; rintro e w' ⟨rfl, hb⟩; replace hb := Lib.hid hb))
    go_ret
    exact ⟨rfl, hb.out⟩

set_option linter.unusedSimpArgs false in
set_option maxHeartbeats 4000000 in
set_option maxRecDepth 20000 in
theorem lasts_yes (N : Nat) (sv mv kvv : Value) (l m : List OpM) (picks : List Int) (w : World) (hsc : ScrAt w sv l) (hmc : ScrAt w mv m) (hpc : IntsAt w kvv picks) (hN : N ≤ 40) (hl : l.length ≤ 200) (hml : m.length ≤ 200) :
    Calls Try.prog 5 #[.int .i64 (N : Int), sv, mv, kvv] w fun e w' => e = .returned (.bool true) ∧ Below w.heap.size w w' := by
  obtain ⟨ao, cap, rfl, hsr⟩ := hsc
  obtain ⟨am, cam, rfl, hmr⟩ := hmc
  have HSR := Lib.hid hsr
  have HMR := Lib.hid hmr
  have HPC := Lib.hid hpc
  clear hsr hmr hpc
  have HO := Lib.hid (Sat.old w)
  have c1 := few_yes (N : Int) ao l.length cap w (by omega) (by omega) hl
  have c2 := few_yes (N : Int) am m.length cam w (by omega) (by omega) hml
  obtain ⟨ti, hti, hz0, hts, hz2⟩ := info_parts info_str
  clear hz0 hz2
  go_enter Try.func5, Try.ntmps5
  go_upto_region 4 with (first
    | (go_at_call 10; (with_reducible refine c1.mono ?_); rintro e w' ⟨rfl, hw⟩; subst hw)
    | (go_at_call 10; (with_reducible refine c2.mono ?_); rintro e w' ⟨rfl, hw⟩; subst hw)
    | (go_at_call 12; refine (new_any (N : Int) (emp * old w) w ((emp_star (old w)).symm ▸ HO.out)).mono ?_; rintro e w1 ⟨p, rfl, H1⟩; replace H1 := Lib.hid H1))
  go_wp2
  go_loopw [36] (fun i wr => LoopSt w p (DiskM.new (N : Int)) l (emp) i wr) (fun i _ => l.length - (intOf i).toNat)
  case atStart => exact ⟨⟨0, Nat.zero_le _, rfl, H1.out⟩⟩
  case round =>
    obtain ⟨k, hk, rfl, hsmr, hsr⟩ := hrel.st
    clear hrel
    have H2 := Lib.hid (And.intro hsmr hsr)
    by_cases hlt : k < l.length
    · obtain ⟨o, ho⟩ : ∃ o, l[k]? = some o := ⟨_, List.getElem?_eq_getElem hlt⟩
      obtain ⟨b, off, rfl, hro⟩ := HSR.out (by rintro rfl; simp at hlt)
      obtain ⟨pv, hro1, hint⟩ := hro k o ho
      have hrow : wr.rangeAt b (off + k * 6) (opA o pv).toList := fun t u hu => (World.cell?_of_block ((hsr.perm (show _ = (diskAt TD TS p (runM (DiskM.new (N : Int)) (l.take k)) * (emp)) * old w from by ac_rfl)).of_old b (World.block_lt_of_cell? w ⟨b, off + k * 6 + t, none⟩ (hro1 t u hu)))).trans (hro1 t u hu)
      have hone := IntsAt.one hint
      have hltd : decide ((k : Int) < (l.length : Int)) = true := decide_eq_true (by omega)
      have hki : (k : Int) ≤ 200 := by omega
      have HO := Lib.hid ho
      have HI := Lib.hid (show ∀ w', Sat w' ((emp) * old w) → IntsAt w' pv o.picks from fun w' h => IntsAt.old hint h)
      clear ho hro hro1 hsmr hsr hint
      go_wp2_with (first
        | ((with_reducible (apply wp_load_scr hrow)); rfl; rfl; rfl)
        | ((with_reducible (refine wpList_alloc_zero ?_ TOp ?_ _ (zeroTOp _) ?_)); rfl; rfl)
        | ((with_reducible (apply wp_store_opf hone)); rfl; rfl; rfl; rfl)
        | ((with_reducible (apply wp_load_opf)); rfl; rfl; rfl)
        | (go_at_call 15; refine (do_any p _ _ o pv _ (H2.out.2.allocKeep _) HI.out).mono ?_; rintro e w' ⟨rfl, h2⟩; replace H2 := Lib.hid (And.intro ((H2.out.1.alloc _).trans h2.out.1) h2.out.2); clear h2))
      go_roundw
      case rel => exact ⟨⟨k + 1, hlt, rfl, H2.out.1, by rw [runM_take _ HO.out]; exact H2.out.2⟩⟩
      case measure => simp only [intOf]; omega
    · obtain rfl : k = l.length := by omega
      have hltd : decide ((l.length : Int) < (l.length : Int)) = false := decide_eq_false (by omega)
      clear hsmr hsr
      obtain ⟨D2, hD2⟩ : ∃ D2, D2 = ((runM (DiskM.new (N : Int)) l).flush).cut [] := ⟨_, rfl⟩
      have hDn : D2.n = N := by rw [hD2]; show (runM (DiskM.new (N : Int)) l).n = N; rw [runM_n]; simp only [DiskM.new]; omega
      have h2c : ∀ i, D2.cache i = none := by intro i; rw [hD2]; rfl
      have h2a : ∀ i, D2.armed i = none := by intro i; rw [hD2]; rfl
      have H1 := Lib.hid (show Same w wr ∧ Sat wr (diskAt TD TS p (runM (DiskM.new (N : Int)) l) * (emp * old w)) by have := H2.out; rw [runM_all] at this; exact this)
      clear H2
      have HD2 := Lib.hid hD2.symm
      have H2I := Lib.hid (And.intro hDn (And.intro h2c h2a))
      clear hD2 hDn h2c h2a
      go_upto_region 12 with (go_at_call 20; refine (step_flush (D' := (runM (DiskM.new (N : Int)) l).flush) H1.out.2 rfl).mono ?_; rintro e w' ⟨rfl, h2⟩; replace H1 := Lib.hid (And.intro (H1.out.1.trans h2.out.1) h2.out.2); clear h2)
      go_upto_region 13 with (go_at_call 21; refine (step_cut (.slice none 0 0) [] H1.out.2 (fun w2 _ => IntsAt.nil w2) HD2.out).mono ?_; rintro e w' ⟨rfl, h2⟩; replace H1 := Lib.hid (And.intro (H1.out.1.trans h2.out.1) h2.out.2); clear h2)
      have HW2 := Lib.hid (diskAt_wf H1.out.2)
      go_upto_region 14 with (go_at_call 22; refine (step_contents H1.out.2 H2I.out.1).mono ?_; rintro e w' ⟨ov, rfl, h2⟩; replace H1 := Lib.hid (And.intro (H1.out.1.trans h2.out.1) h2.out.2); clear h2)
      have hmm := @run_makeMap Try.prog
      have hs0 := H1.out.2.alloc (.map #[] 0)
      have hsm0 := H1.out.1.alloc (.map #[] 0)
      go_upto_region 15 with (fail)
      clear hmm
      generalize w'.alloc (.map #[] 0) = w2 at hs0 hsm0 ⊢
      generalize w'.heap.size = mb at hs0 ⊢
      have hst : LastSt w p N mb D2 m ov (.int .i64 0) w2 := ⟨0, #[], 0, [], D2, Nat.zero_le _, rfl, hsm0, MapL.empty 0, ⟨H2I.out.1, H2I.out.2.2, fun _ => rfl, fun i _ _ => H2I.out.2.1 i, fun k v h => by simp [lk] at h⟩, by have := hs0; rw [emp_star] at this; exact this.perm (by ac_rfl)⟩
      have HST := Lib.hid hst
      clear hst hs0 hsm0
      go_wp2
      go_loopw [54] (fun i wr => LastSt w p N mb D2 m ov i wr) (fun i _ => m.length - (intOf i).toNat)
      case atStart => exact HST.out
      case round =>
        obtain ⟨k, es, ck, kv, D, hk, rfl, hsmr, hM, hI, hsr⟩ := hrel.st
        clear hrel
        have HM := Lib.hid hM
        have HIN := Lib.hid hI
        by_cases hlt : k < m.length
        · obtain ⟨o, ho⟩ : ∃ o, m[k]? = some o := ⟨_, List.getElem?_eq_getElem hlt⟩
          obtain ⟨b, off, rfl, hro⟩ := HMR.out (by rintro rfl; simp at hlt)
          obtain ⟨pv, hro1, hint⟩ := hro k o ho
          have hrow : wr.rangeAt b (off + k * 6) (opA o pv).toList := fun t u hu => (World.cell?_of_block ((hsr.perm (show _ = (diskAt TD TS p D * (pts mb (.map es ck) * rowS ov (strB D2 N))) * old w from by ac_rfl)).of_old b (World.block_lt_of_cell? w ⟨b, off + k * 6 + t, none⟩ (hro1 t u hu)))).trans (hro1 t u hu)
          have hone := IntsAt.one hint
          have hltd : decide ((k : Int) < (m.length : Int)) = true := decide_eq_true (by omega)
          have hki : (k : Int) ≤ 200 := by omega
          have hsa := hsr.alloc (.cells (opA o pv) TOp)
          have hsma := hsmr.alloc (.cells (opA o pv) TOp)
          have HI := Lib.hid (show ∀ (B : Nat) w', Sat w' (pts B (.cells (opA o pv) TOp (0, 0)) * (pts mb (.map es ck) * (rowS ov (strB D2 N) * old w))) → IntsAt w' pv o.picks from fun B w' h => IntsAt.old hint (h.perm (show _ = (pts B (.cells (opA o pv) TOp (0, 0)) * (pts mb (.map es ck) * rowS ov (strB D2 N))) * old w from by ac_rfl)))
          clear ho hro hro1 hsmr hsr hint hM hI
          go_upto_region 18 with (first
            | ((with_reducible (apply wp_load_scr hrow)); rfl; rfl; rfl)
            | ((with_reducible (refine wpList_alloc_zero ?_ TOp ?_ _ (zeroTOp _) ?_)); rfl; rfl)
            | ((with_reducible (apply wp_store_opf hone)); rfl; rfl; rfl; rfl))
          clear hrow
          generalize wr.alloc (.cells (opA o pv) TOp) = w1 at hsa hsma ⊢
          generalize wr.heap.size = B at hsa ⊢
          have H3 := Lib.hid (And.intro hsma (hsa.perm (show _ = diskAt TD TS p D * (pts B (.cells (opA o pv) TOp (0, 0)) * (pts mb (.map es ck) * (rowS ov (strB D2 N) * old w))) from by ac_rfl)))
          obtain ⟨kd, oi, oj, ofl, osz, opk⟩ := o
          have c0 : w1.cell? ⟨B, 0, none⟩ = some (.int .i64 kd) := by rw [cells_at hsa.block]; rfl
          have c1 : w1.cell? ⟨B, 1, none⟩ = some (.int .i64 oi) := by rw [cells_at hsa.block]; rfl
          have c2 : w1.cell? ⟨B, 2, none⟩ = some (.int .i64 oj) := by rw [cells_at hsa.block]; rfl
          have c3 : w1.cell? ⟨B, 3, none⟩ = some (.int .u8 (ofl.toNat : Int)) := by rw [cells_at hsa.block]; rfl
          have c4 : w1.cell? ⟨B, 4, none⟩ = some (.int .i64 osz) := by rw [cells_at hsa.block]; rfl
          have c5 : w1.cell? ⟨B, 5, none⟩ = some pv := by rw [cells_at hsa.block]; rfl
          clear hsa hsma
          by_cases h1 : kd = 1
          · subst h1
            by_cases hok : D.has oi = true ∧ (⟨1, oi, oj, ofl, osz, opk⟩ : OpM).text.length = 64
            · obtain ⟨D', hw, hI'⟩ := HIN.out.write hok
              have hd : doM D (⟨1, oi, oj, ofl, osz, opk⟩ : OpM) = (D', 0) := hw
              have HD := Lib.hid hd
              have HI2 := Lib.hid hI'
              clear hd hw hok hI'
              go_upto_region 19 with (go_at_call 15; refine (step_do (o := (⟨1, oi, oj, ofl, osz, opk⟩ : OpM)) (pv := pv) H3.out.2 (HI.out B) HD.out).mono ?_; rintro e w' ⟨rfl, h2⟩; replace H3 := Lib.hid (And.intro (H3.out.1.trans h2.out.1) h2.out.2); clear h2 c0 c1 c2 c3 c4 c5; have c0 : w'.cell? ⟨B, 0, none⟩ = some (.int .i64 1) := (by rw [cells_at ((H3.out.2.perm (show _ = pts B (.cells (opA (⟨1, oi, oj, ofl, osz, opk⟩ : OpM) pv) TOp (0, 0)) * (diskAt TD TS p _ * (pts mb (.map es ck) * (rowS ov (strB D2 N) * old w))) from by ac_rfl)).block)]; rfl))
              have hsb := H3.out.2.perm (show _ = pts mb (.map es ck) * (pts B (.cells (opA (⟨1, oi, oj, ofl, osz, opk⟩ : OpM) pv) TOp (0, 0)) * (diskAt TD TS p D' * (rowS ov (strB D2 N) * old w))) from by ac_rfl)
              obtain ⟨es4, ck4, hup, hM4⟩ := run_mapUpdate_kv (P := Try.prog) (w := w') Try.underlying44 Try.underlying3 hsb.block HM.out oi (.bool true)
              clear c0
              have c1 : w'.cell? ⟨B, 1, none⟩ = some (.int .i64 oi) := by rw [cells_at hsb.right.block]; rfl
              have H5 := Lib.hid (And.intro (H3.out.1.setBlock (r := mb) (.map es4 ck4)) (hsb.setBlock (o' := .map es4 ck4)))
              have HM4 := Lib.hid hM4
              clear hsb hM4
              go_wp2
              go_roundw
              case rel => exact ⟨⟨k + 1, es4, ck4, _, D', hlt, rfl, H5.out.1, HM4.out, HI2.out, (H5.out.2.perm (show _ = pts B (.cells (opA (⟨1, oi, oj, ofl, osz, opk⟩ : OpM) pv) TOp (0, 0)) * (diskAt TD TS p D' * (pts mb (.map es4 ck4) * (rowS ov (strB D2 N) * old w))) from by ac_rfl)).right⟩⟩
              case measure => simp only [intOf]; omega
            · have hd : doM D (⟨1, oi, oj, ofl, osz, opk⟩ : OpM) = (D, 1) := by show D.write oi (⟨1, oi, oj, ofl, osz, opk⟩ : OpM).text = _; unfold DiskM.write; rw [if_neg hok]
              have HD := Lib.hid hd
              clear hd hok
              go_wp2_with (go_at_call 15; refine (step_do (o := (⟨1, oi, oj, ofl, osz, opk⟩ : OpM)) (pv := pv) H3.out.2 (HI.out B) HD.out).mono ?_; rintro e w' ⟨rfl, h2⟩; replace H3 := Lib.hid (And.intro (H3.out.1.trans h2.out.1) h2.out.2); clear h2 c0 c1 c2 c3 c4 c5; have c0 : w'.cell? ⟨B, 0, none⟩ = some (.int .i64 1) := (by rw [cells_at ((H3.out.2.perm (show _ = pts B (.cells (opA (⟨1, oi, oj, ofl, osz, opk⟩ : OpM) pv) TOp (0, 0)) * (diskAt TD TS p _ * (pts mb (.map es ck) * (rowS ov (strB D2 N) * old w))) from by ac_rfl)).block)]; rfl))
              go_roundw
              case rel => exact ⟨⟨k + 1, es, ck, kv, D, hlt, rfl, H3.out.1, HM.out, HIN.out, (H3.out.2.perm (show _ = pts B (.cells (opA _ pv) TOp (0, 0)) * (diskAt TD TS p D * (pts mb (.map es ck) * (rowS ov (strB D2 N) * old w))) from by ac_rfl)).right⟩⟩
              case measure => simp only [intOf]; omega
          · have q1 : (kd == 1) = false := by simpa using h1
            clear h1
            go_wp2
            go_roundw
            case rel => exact ⟨⟨k + 1, es, ck, kv, D, hlt, rfl, H3.out.1, HM.out, HIN.out, (H3.out.2.perm (show _ = pts B (.cells (opA _ pv) TOp (0, 0)) * (diskAt TD TS p D * (pts mb (.map es ck) * (rowS ov (strB D2 N) * old w))) from by ac_rfl)).right⟩⟩
            case measure => simp only [intOf]; omega
        · obtain rfl : k = m.length := by omega
          have hltd : decide ((m.length : Int) < (m.length : Int)) = false := decide_eq_false (by omega)
          have HW3 := Lib.hid (diskAt_wf hsr)
          have H6 := Lib.hid (And.intro hsmr hsr)
          clear hsmr hsr hM hI
          have hpl := lplan_ex HIN.out H2I.out.2.1 H2I.out.1 HW2.out HW3.out picks
          obtain ⟨D4, hD4⟩ : ∃ D4, D.cut picks = D4 := ⟨_, rfl⟩
          rw [hD4] at hpl
          have PL := Lib.hid hpl
          have HD4 := Lib.hid hD4
          clear hpl hD4
          go_upto_region 22 with (go_at_call 22; refine (step_contents H6.out.2 HIN.out.n).mono ?_; rintro e w' ⟨fv, rfl, h2⟩; replace H6 := Lib.hid (And.intro (H6.out.1.trans h2.out.1) (h2.out.2.perm (show _ = diskAt TD TS p D * (rowS fv (strB D N) * (pts mb (.map es ck) * (rowS ov (strB D2 N) * old w))) from by ac_rfl))); clear h2)
          go_upto_region 23 with (go_at_call 21; refine (step_cut kvv picks H6.out.2 (fun w2 h => IntsAt.old HPC.out (h.perm (show _ = (rowS fv (strB D N) * (pts mb (.map es ck) * rowS ov (strB D2 N))) * old w from by ac_rfl))) HD4.out).mono ?_; rintro e w' ⟨rfl, h2⟩; replace H6 := Lib.hid (And.intro (H6.out.1.trans h2.out.1) h2.out.2); clear h2)
          go_upto_region 24 with (go_at_call 22; refine (step_contents H6.out.2 PL.out.n4).mono ?_; rintro e w' ⟨cv, rfl, h2⟩; obtain ⟨ca, cc, hcv⟩ := rowS_sl h2.out.2; rw [strB_length] at hcv; subst hcv; replace H6 := Lib.hid (And.intro (H6.out.1.trans h2.out.1) h2.out.2); clear h2)
          have hn4 := PL.out.n4
          go_wp2
          go_loopw [81] (fun i wr => LastSt3 w N (rowS (.slice ca N cc) (strB D4 N) * (diskAt TD TS p D4 * (rowS fv (strB D N) * (pts mb (.map es ck) * (rowS ov (strB D2 N) * old w))))) i wr) (fun i _ => N - (intOf i).toNat)
          case atStart => exact ⟨⟨0, Nat.zero_le _, rfl, H6.out⟩⟩
          case round =>
            obtain ⟨k, hk, rfl, hsmr, hsr⟩ := hrel.st
            clear hrel
            have H1 := Lib.hid (And.intro hsmr hsr)
            by_cases hlt : k < N
            · have hltd : decide ((k : Int) < (N : Int)) = true := decide_eq_true (by omega)
              have hki : (k : Int) ≤ 40 := by omega
              have hk0 : (0 : Int) ≤ (k : Int) := by omega
              have hkn : (k : Int) < (N : Int) := by omega
              obtain ⟨g3, cap3, hv3, hget3⟩ := rowS_get hsr (by rw [strB_length]; omega)
              rw [strB_length] at hv3
              injection hv3 with e1 _ e3
              subst e1 e3
              obtain ⟨g2, cap2, hv2, hget2⟩ := rowS_get (hsr.perm (show _ = rowS fv (strB D N) * (rowS (.slice (some ⟨g3, 0, none⟩) N cc) (strB D4 N) * (diskAt TD TS p D4 * (pts mb (.map es ck) * (rowS ov (strB D2 N) * old w)))) from by ac_rfl)) (by rw [strB_length]; omega)
              rw [strB_length] at hv2
              have cF0 := hget2 wr _ (hsr.perm (show _ = rowS fv (strB D N) * (rowS (.slice (some ⟨g3, 0, none⟩) N cc) (strB D4 N) * (diskAt TD TS p D4 * (pts mb (.map es ck) * (rowS ov (strB D2 N) * old w)))) from by ac_rfl)) k (strV (D.content k)) (by simp [strB, hlt])
              obtain ⟨g1, cap1, hv1, hget1⟩ := rowS_get (hsr.perm (show _ = rowS ov (strB D2 N) * (rowS fv (strB D N) * (rowS (.slice (some ⟨g3, 0, none⟩) N cc) (strB D4 N) * (diskAt TD TS p D4 * (pts mb (.map es ck) * old w)))) from by ac_rfl)) (by rw [strB_length]; omega)
              rw [strB_length] at hv1
              have cO0 := hget1 wr _ (hsr.perm (show _ = rowS ov (strB D2 N) * (rowS fv (strB D N) * (rowS (.slice (some ⟨g3, 0, none⟩) N cc) (strB D4 N) * (diskAt TD TS p D4 * (pts mb (.map es ck) * old w)))) from by ac_rfl)) k (strV (D2.content k)) (by simp [strB, hlt])
              have cS := hget3 wr _ hsr k (strV (D4.content k)) (by simp [strB, hlt])
              have hmb : wr.heap[mb]? = some (.map es ck) := (hsr.perm (show _ = pts mb (.map es ck) * (rowS ov (strB D2 N) * (rowS fv (strB D N) * (rowS (.slice (some ⟨g3, 0, none⟩) N cc) (strB D4 N) * (diskAt TD TS p D4 * old w)))) from by ac_rfl)).block
              clear hget1 hget2 hget3 hsmr hsr
              obtain ⟨c, hc, hmix⟩ := PL.out.mix k hlt
              have hmx : strV (D4.content k) = (strV (D.content k)).extract 0 c ++ (strV (D2.content k)).extract c 64 := by rw [hmix]; exact strV_torn (PL.out.l2 k hlt) c
              have hS64 : (strV (D4.content k)).size = 64 := by show (D4.content k).toArray.size = 64; simpa using PL.out.l4 k hlt
              have hF64 : (strV (D.content k)).size = 64 := by show (D.content k).toArray.size = 64; simpa using PL.out.l3 k hlt
              have hO64 : (strV (D2.content k)).size = 64 := by show (D2.content k).toArray.size = 64; simpa using PL.out.l2 k hlt
              have hkeep : lk kv (k : Int) = none → strV (D4.content k) = strV (D2.content k) := fun h => by rw [PL.out.keep k hlt h]
              have HLK := Lib.hid (fun (w2 : World) (h : w2.heap[mb]? = some (.map es ck)) => run_lookup_at (P := Try.prog) Try.underlying44 Try.underlying3 (zeroBool w2) h HM.out (k : Int))
              generalize strV (D4.content k) = S at hmx hS64 hkeep cS
              generalize strV (D.content k) = F at hmx hF64 cF0
              generalize strV (D2.content k) = O at hmx hO64 hkeep cO0
              have HMIX := Lib.hid hmx
              have HKEEP := Lib.hid hkeep
              have HV1 := Lib.hid hv1
              have HV2 := Lib.hid hv2
              clear hmx hmix hkeep hv1 hv2
              go_upto_region 26 with (fail)
              have cO : wr.cell? ⟨g1, 0 + k * 1, none⟩ = some (.string O) := by rw [show 0 + k * 1 = k by omega]; exact cO0
              have cF : wr.cell? ⟨g2, 0 + k * 1, none⟩ = some (.string F) := by rw [show 0 + k * 1 = k by omega]; exact cF0
              clear cO0 cF0 cS
              rw [HV1.out, HV2.out]
              have hS0 : wr.drew.cell? ⟨g1, 0 + k * 1, none⟩ = some (.string O) ∧ wr.drew.cell? ⟨g2, 0 + k * 1, none⟩ = some (.string F) ∧ wr.drew.heap[mb]? = some (.map es ck) := ⟨cO, cF, hmb⟩
              refine reg_begin (fun w2 => w2.cell? ⟨g1, 0 + k * 1, none⟩ = some (.string O) ∧ w2.cell? ⟨g2, 0 + k * 1, none⟩ = some (.string F) ∧ w2.heap[mb]? = some (.map es ck)) (by kernel_rfl) ?_
              (apply reg_take 0 rfl rfl (by decide +kernel) rfl); (rintro w2 ⟨h1, h2, h3⟩; go_simp; rfl); exact hS0; simp only [List.setIfInBounds_toArray, List.set_cons_succ, List.set_cons_zero]
              (apply reg_take 1 rfl rfl (by decide +kernel) rfl); (rintro w2 ⟨h1, h2, h3⟩; go_simp; rfl); exact hS0; simp only [List.setIfInBounds_toArray, List.set_cons_succ, List.set_cons_zero]
              (apply reg_take 2 rfl rfl (by decide +kernel) rfl); (rintro w2 ⟨h1, h2, h3⟩; go_simp; rfl); exact hS0; simp only [List.setIfInBounds_toArray, List.set_cons_succ, List.set_cons_zero]
              (apply reg_take 3 rfl rfl (by decide +kernel) rfl); (rintro w2 ⟨h1, h2, h3⟩; go_simp; rfl); exact hS0; simp only [List.setIfInBounds_toArray, List.set_cons_succ, List.set_cons_zero]
              (apply reg_take 4 rfl rfl (by decide +kernel) rfl); (rintro w2 ⟨h1, h2, h3⟩; go_simp; rfl); exact hS0; simp only [List.setIfInBounds_toArray, List.set_cons_succ, List.set_cons_zero]
              (apply reg_take 5 rfl rfl (by decide +kernel) rfl); (rintro w2 ⟨h1, h2, h3⟩; go_simp; rfl); exact hS0; simp only [List.setIfInBounds_toArray, List.set_cons_succ, List.set_cons_zero]
              refine reg_take 6 (v := .pointer (some ⟨g1, 0 + k * 1, none⟩)) rfl rfl (by decide +kernel) rfl (fun _ _ => exec_index_slice rfl rfl rfl Try.underlying42 hti hts hlt) hS0 ?_; simp only [List.setIfInBounds_toArray, List.set_cons_succ, List.set_cons_zero]
              refine reg_take 7 (v := .string O) rfl rfl (by decide +kernel) rfl (fun _ h => exec_load_cell rfl rfl Try.underlying9 rfl h.1) hS0 ?_; simp only [List.setIfInBounds_toArray, List.set_cons_succ, List.set_cons_zero]
              (apply reg_take 8 rfl rfl (by decide +kernel) rfl); (rintro w2 ⟨h1, h2, h3⟩; go_simp; rfl); exact hS0; simp only [List.setIfInBounds_toArray, List.set_cons_succ, List.set_cons_zero]
              (apply reg_take 9 rfl rfl (by decide +kernel) rfl); (rintro w2 ⟨h1, h2, h3⟩; go_simp; rfl); exact hS0; simp only [List.setIfInBounds_toArray, List.set_cons_succ, List.set_cons_zero]
              (apply reg_take 10 rfl rfl (by decide +kernel) rfl); (rintro w2 ⟨h1, h2, h3⟩; go_simp; rfl); exact hS0; simp only [List.setIfInBounds_toArray, List.set_cons_succ, List.set_cons_zero]
              (apply reg_take 11 rfl rfl (by decide +kernel) rfl); (rintro w2 ⟨h1, h2, h3⟩; go_simp; rfl); exact hS0; simp only [List.setIfInBounds_toArray, List.set_cons_succ, List.set_cons_zero]
              (apply reg_take 12 rfl rfl (by decide +kernel) rfl); (rintro w2 ⟨h1, h2, h3⟩; go_simp; rfl); exact hS0; simp only [List.setIfInBounds_toArray, List.set_cons_succ, List.set_cons_zero]
              (apply reg_take 13 rfl rfl (by decide +kernel) rfl); (rintro w2 ⟨h1, h2, h3⟩; go_simp; rfl); exact hS0; simp only [List.setIfInBounds_toArray, List.set_cons_succ, List.set_cons_zero]
              refine reg_take 14 (v := .pointer (some ⟨g2, 0 + k * 1, none⟩)) rfl rfl (by decide +kernel) rfl (fun _ _ => exec_index_slice rfl rfl rfl Try.underlying42 hti hts hlt) hS0 ?_; simp only [List.setIfInBounds_toArray, List.set_cons_succ, List.set_cons_zero]
              refine reg_take 15 (v := .string F) rfl rfl (by decide +kernel) rfl (fun _ h => exec_load_cell rfl rfl Try.underlying9 rfl h.2.1) hS0 ?_; simp only [List.setIfInBounds_toArray, List.set_cons_succ, List.set_cons_zero]
              (apply reg_take 16 rfl rfl (by decide +kernel) rfl); (rintro w2 ⟨h1, h2, h3⟩; go_simp; rfl); exact hS0; simp only [List.setIfInBounds_toArray, List.set_cons_succ, List.set_cons_zero]
              (apply reg_take 17 rfl rfl (by decide +kernel) rfl); (rintro w2 ⟨h1, h2, h3⟩; go_simp; rfl); exact hS0; simp only [List.setIfInBounds_toArray, List.set_cons_succ, List.set_cons_zero]
              (apply reg_take 18 rfl rfl (by decide +kernel) rfl); (rintro w2 ⟨h1, h2, h3⟩; go_simp; rfl); exact hS0; simp only [List.setIfInBounds_toArray, List.set_cons_succ, List.set_cons_zero]
              (apply reg_take 19 rfl rfl (by decide +kernel) rfl); (rintro w2 ⟨h1, h2, h3⟩; go_simp; rfl); exact hS0; simp only [List.setIfInBounds_toArray, List.set_cons_succ, List.set_cons_zero]
              (apply reg_take 20 rfl rfl (by decide +kernel) rfl); (rintro w2 ⟨h1, h2, h3⟩; go_simp; rfl); exact hS0; simp only [List.setIfInBounds_toArray, List.set_cons_succ, List.set_cons_zero]
              (apply reg_take 21 rfl rfl (by decide +kernel) rfl); (rintro w2 ⟨h1, h2, h3⟩; go_simp; rfl); exact hS0; simp only [List.setIfInBounds_toArray, List.set_cons_succ, List.set_cons_zero]
              cases hq : lk kv (k : Int) with
              | none =>
                have hSO := HKEEP.out hq
                subst hSO
                refine reg_take 22 (v := .bool false) rfl rfl (by decide +kernel) rfl (fun w2 h => exec_lookup rfl rfl rfl (by have := HLK.out w2 h.2.2; rw [hq] at this; exact this)) hS0 ?_; simp only [List.setIfInBounds_toArray, List.set_cons_succ, List.set_cons_zero]
                (apply reg_take 23 rfl rfl (by decide +kernel) rfl); (rintro w2 ⟨h1, h2, h3⟩; go_simp; rfl); exact hS0; simp only [List.setIfInBounds_toArray, List.set_cons_succ, List.set_cons_zero]
                (apply reg_take 24 rfl rfl (by decide +kernel) rfl); (rintro w2 ⟨h1, h2, h3⟩; go_simp; rfl); exact hS0; simp only [List.setIfInBounds_toArray, List.set_cons_succ, List.set_cons_zero]
                (apply reg_take 25 rfl rfl (by decide +kernel) rfl); (rintro w2 ⟨h1, h2, h3⟩; go_simp; rfl); exact hS0; simp only [List.setIfInBounds_toArray, List.set_cons_succ, List.set_cons_zero]
                (apply reg_take 26 rfl rfl (by decide +kernel) rfl); (rintro w2 ⟨h1, h2, h3⟩; go_simp; rfl); exact hS0; simp only [List.setIfInBounds_toArray, List.set_cons_succ, List.set_cons_zero]
                (apply reg_take 27 rfl rfl (by decide +kernel) rfl); (rintro w2 ⟨h1, h2, h3⟩; go_simp; rfl); exact hS0; simp only [List.setIfInBounds_toArray, List.set_cons_succ, List.set_cons_zero]
                refine reg_take 28 (v := .pointer (some ⟨g1, 0 + k * 1, none⟩)) rfl rfl (by decide +kernel) rfl (fun _ _ => exec_index_slice rfl rfl rfl Try.underlying42 hti hts hlt) hS0 ?_; simp only [List.setIfInBounds_toArray, List.set_cons_succ, List.set_cons_zero]
                refine reg_take 29 (v := .string S) rfl rfl (by decide +kernel) rfl (fun _ h => exec_load_cell rfl rfl Try.underlying9 rfl h.1) hS0 ?_; simp only [List.setIfInBounds_toArray, List.set_cons_succ, List.set_cons_zero]
                refine reg_take 30 (v := .bool false) rfl rfl (by decide +kernel) rfl (fun w' _ => exec_binop rfl rfl rfl rfl (run_neq_str w' false (by simp))) hS0 ?_; simp only [List.setIfInBounds_toArray, List.set_cons_succ, List.set_cons_zero]
                (apply reg_take 31 rfl rfl (by decide +kernel) rfl); (rintro w2 ⟨h1, h2, h3⟩; go_simp; rfl); exact hS0; simp only [List.setIfInBounds_toArray, List.set_cons_succ, List.set_cons_zero]
                (apply reg_take 32 rfl rfl (by decide +kernel) rfl); (rintro w2 ⟨h1, h2, h3⟩; go_simp; rfl); exact hS0; simp only [List.setIfInBounds_toArray, List.set_cons_succ, List.set_cons_zero]
                (apply reg_take 33 rfl rfl (by decide +kernel) rfl); (rintro w2 ⟨h1, h2, h3⟩; go_simp; rfl); exact hS0; simp only [List.setIfInBounds_toArray, List.set_cons_succ, List.set_cons_zero]
                (apply reg_take 34 rfl rfl (by decide +kernel) rfl); (rintro w2 ⟨h1, h2, h3⟩; go_simp; rfl); exact hS0; simp only [List.setIfInBounds_toArray, List.set_cons_succ, List.set_cons_zero]
                (apply reg_take 35 rfl rfl (by decide +kernel) rfl); (rintro w2 ⟨h1, h2, h3⟩; go_simp; rfl); exact hS0; simp only [List.setIfInBounds_toArray, List.set_cons_succ, List.set_cons_zero]
                (apply reg_take 36 rfl rfl (by decide +kernel) rfl); (rintro w2 ⟨h1, h2, h3⟩; go_simp; rfl); exact hS0; simp only [List.setIfInBounds_toArray, List.set_cons_succ, List.set_cons_zero]
                refine reg_take 37 (v := .pointer (some ⟨g2, 0 + k * 1, none⟩)) rfl rfl (by decide +kernel) rfl (fun _ _ => exec_index_slice rfl rfl rfl Try.underlying42 hti hts hlt) hS0 ?_; simp only [List.setIfInBounds_toArray, List.set_cons_succ, List.set_cons_zero]
                refine reg_take 38 (v := .string F) rfl rfl (by decide +kernel) rfl (fun _ h => exec_load_cell rfl rfl Try.underlying9 rfl h.2.1) hS0 ?_; simp only [List.setIfInBounds_toArray, List.set_cons_succ, List.set_cons_zero]
                (apply reg_take 39 rfl rfl (by decide +kernel) rfl); (rintro w2 ⟨h1, h2, h3⟩; go_simp; rfl); exact hS0; simp only [List.setIfInBounds_toArray, List.set_cons_succ, List.set_cons_zero]
                (apply reg_take 40 rfl rfl (by decide +kernel) rfl); (rintro w2 ⟨h1, h2, h3⟩; go_simp; rfl); exact hS0; simp only [List.setIfInBounds_toArray, List.set_cons_succ, List.set_cons_zero]
                refine reg_take 41 (v := .pointer (some ⟨g1, 0 + k * 1, none⟩)) rfl rfl (by decide +kernel) rfl (fun _ _ => exec_index_slice rfl rfl rfl Try.underlying42 hti hts hlt) hS0 ?_; simp only [List.setIfInBounds_toArray, List.set_cons_succ, List.set_cons_zero]
                refine reg_take 42 (v := .string S) rfl rfl (by decide +kernel) rfl (fun _ h => exec_load_cell rfl rfl Try.underlying9 rfl h.1) hS0 ?_; simp only [List.setIfInBounds_toArray, List.set_cons_succ, List.set_cons_zero]
                refine reg_call 43 rfl rfl (by decide +kernel) rfl (f := 23) (args := #[.string S, .string F, .string S]) (R := fun v w2 => v = .bool true ∧ Hid (Below wr.heap.size wr w2)) (by kernel_rfl) ((mixed_any S F S c wr.drew hF64 hO64 hc HMIX.out).mono fun e w2 h => ⟨_, h.1, rfl, ⟨h.2.out.os, h.2.out.tape, h.2.out.output, h.2.out.size, h.2.out.block⟩⟩) ?_
                rintro _ w3 ⟨rfl, hb⟩
                have hS1 : w3.cell? ⟨g1, 0 + k * 1, none⟩ = some (.string S) ∧ w3.cell? ⟨g2, 0 + k * 1, none⟩ = some (.string F) ∧ w3.heap[mb]? = some (.map es ck) :=
                  ⟨(hb.out.cell (World.block_lt_of_cell? _ _ cO)).trans cO, (hb.out.cell (World.block_lt_of_cell? _ _ cF)).trans cF, (hb.out.block mb (Array.getElem?_eq_some_iff.1 hmb).1).trans hmb⟩
                refine ⟨hS1, ?_⟩
                simp only [List.setIfInBounds_toArray, List.set_cons_succ, List.set_cons_zero]
                (apply reg_take 44 rfl rfl (by decide +kernel) rfl); (rintro w2 ⟨h1, h2, h3⟩; go_simp; rfl); exact hS1; simp only [List.setIfInBounds_toArray, List.set_cons_succ, List.set_cons_zero]
                (apply reg_take 45 rfl rfl (by decide +kernel) rfl); (rintro w2 ⟨h1, h2, h3⟩; go_simp; rfl); exact hS1; simp only [List.setIfInBounds_toArray, List.set_cons_succ, List.set_cons_zero]
                refine reg_done (by decide +kernel) ?_
                have H7 := Lib.hid (And.intro (H1.out.1.below hb.out) (H1.out.2.below hb.out))
                clear hS0 hS1 cO cF hmb hb
                go_wp2
                go_roundw
                case rel =>
                  (repeat apply Exists.intro)
                  exact ⟨⟨⟨k + 1, hlt, rfl, H7.out⟩⟩, rfl, HV1.out.symm, HV2.out.symm, rfl, rfl, HV1.out.symm, HV2.out.symm, rfl⟩
                case measure => simp only [intOf]; omega
              | some v =>
                have hv := HIN.out.vals _ _ hq
                subst hv
                refine reg_take 22 (v := .bool true) rfl rfl (by decide +kernel) rfl (fun w2 h => exec_lookup rfl rfl rfl (by have := HLK.out w2 h.2.2; rw [hq] at this; exact this)) hS0 ?_; simp only [List.setIfInBounds_toArray, List.set_cons_succ, List.set_cons_zero]
                (apply reg_take 23 rfl rfl (by decide +kernel) rfl); (rintro w2 ⟨h1, h2, h3⟩; go_simp; rfl); exact hS0; simp only [List.setIfInBounds_toArray, List.set_cons_succ, List.set_cons_zero]
                (apply reg_take 24 rfl rfl (by decide +kernel) rfl); (rintro w2 ⟨h1, h2, h3⟩; go_simp; rfl); exact hS0; simp only [List.setIfInBounds_toArray, List.set_cons_succ, List.set_cons_zero]
                (apply reg_skip 25 rfl rfl (by decide +kernel) rfl); exact hS0; simp only [List.setIfInBounds_toArray, List.set_cons_succ, List.set_cons_zero]
                (apply reg_skip 26 rfl rfl (by decide +kernel) rfl); exact hS0; simp only [List.setIfInBounds_toArray, List.set_cons_succ, List.set_cons_zero]
                (apply reg_skip 27 rfl rfl (by decide +kernel) rfl); exact hS0; simp only [List.setIfInBounds_toArray, List.set_cons_succ, List.set_cons_zero]
                (apply reg_skip 28 rfl rfl (by decide +kernel) rfl); exact hS0; simp only [List.setIfInBounds_toArray, List.set_cons_succ, List.set_cons_zero]
                (apply reg_skip 29 rfl rfl (by decide +kernel) rfl); exact hS0; simp only [List.setIfInBounds_toArray, List.set_cons_succ, List.set_cons_zero]
                (apply reg_skip 30 rfl rfl (by decide +kernel) rfl); exact hS0; simp only [List.setIfInBounds_toArray, List.set_cons_succ, List.set_cons_zero]
                (apply reg_take 31 rfl rfl (by decide +kernel) rfl); (rintro w2 ⟨h1, h2, h3⟩; go_simp; rfl); exact hS0; simp only [List.setIfInBounds_toArray, List.set_cons_succ, List.set_cons_zero]
                (apply reg_take 32 rfl rfl (by decide +kernel) rfl); (rintro w2 ⟨h1, h2, h3⟩; go_simp; rfl); exact hS0; simp only [List.setIfInBounds_toArray, List.set_cons_succ, List.set_cons_zero]
                (apply reg_take 33 rfl rfl (by decide +kernel) rfl); (rintro w2 ⟨h1, h2, h3⟩; go_simp; rfl); exact hS0; simp only [List.setIfInBounds_toArray, List.set_cons_succ, List.set_cons_zero]
                (apply reg_take 34 rfl rfl (by decide +kernel) rfl); (rintro w2 ⟨h1, h2, h3⟩; go_simp; rfl); exact hS0; simp only [List.setIfInBounds_toArray, List.set_cons_succ, List.set_cons_zero]
                (apply reg_take 35 rfl rfl (by decide +kernel) rfl); (rintro w2 ⟨h1, h2, h3⟩; go_simp; rfl); exact hS0; simp only [List.setIfInBounds_toArray, List.set_cons_succ, List.set_cons_zero]
                (apply reg_take 36 rfl rfl (by decide +kernel) rfl); (rintro w2 ⟨h1, h2, h3⟩; go_simp; rfl); exact hS0; simp only [List.setIfInBounds_toArray, List.set_cons_succ, List.set_cons_zero]
                refine reg_take 37 (v := .pointer (some ⟨g2, 0 + k * 1, none⟩)) rfl rfl (by decide +kernel) rfl (fun _ _ => exec_index_slice rfl rfl rfl Try.underlying42 hti hts hlt) hS0 ?_; simp only [List.setIfInBounds_toArray, List.set_cons_succ, List.set_cons_zero]
                refine reg_take 38 (v := .string F) rfl rfl (by decide +kernel) rfl (fun _ h => exec_load_cell rfl rfl Try.underlying9 rfl h.2.1) hS0 ?_; simp only [List.setIfInBounds_toArray, List.set_cons_succ, List.set_cons_zero]
                (apply reg_take 39 rfl rfl (by decide +kernel) rfl); (rintro w2 ⟨h1, h2, h3⟩; go_simp; rfl); exact hS0; simp only [List.setIfInBounds_toArray, List.set_cons_succ, List.set_cons_zero]
                (apply reg_take 40 rfl rfl (by decide +kernel) rfl); (rintro w2 ⟨h1, h2, h3⟩; go_simp; rfl); exact hS0; simp only [List.setIfInBounds_toArray, List.set_cons_succ, List.set_cons_zero]
                refine reg_take 41 (v := .pointer (some ⟨g1, 0 + k * 1, none⟩)) rfl rfl (by decide +kernel) rfl (fun _ _ => exec_index_slice rfl rfl rfl Try.underlying42 hti hts hlt) hS0 ?_; simp only [List.setIfInBounds_toArray, List.set_cons_succ, List.set_cons_zero]
                refine reg_take 42 (v := .string O) rfl rfl (by decide +kernel) rfl (fun _ h => exec_load_cell rfl rfl Try.underlying9 rfl h.1) hS0 ?_; simp only [List.setIfInBounds_toArray, List.set_cons_succ, List.set_cons_zero]
                refine reg_call 43 rfl rfl (by decide +kernel) rfl (f := 23) (args := #[.string S, .string F, .string O]) (R := fun v w2 => v = .bool true ∧ Hid (Below wr.heap.size wr w2)) (by kernel_rfl) ((mixed_any S F O c wr.drew hF64 hO64 hc HMIX.out).mono fun e w2 h => ⟨_, h.1, rfl, ⟨h.2.out.os, h.2.out.tape, h.2.out.output, h.2.out.size, h.2.out.block⟩⟩) ?_
                rintro _ w3 ⟨rfl, hb⟩
                have hS1 : w3.cell? ⟨g1, 0 + k * 1, none⟩ = some (.string O) ∧ w3.cell? ⟨g2, 0 + k * 1, none⟩ = some (.string F) ∧ w3.heap[mb]? = some (.map es ck) :=
                  ⟨(hb.out.cell (World.block_lt_of_cell? _ _ cO)).trans cO, (hb.out.cell (World.block_lt_of_cell? _ _ cF)).trans cF, (hb.out.block mb (Array.getElem?_eq_some_iff.1 hmb).1).trans hmb⟩
                refine ⟨hS1, ?_⟩
                simp only [List.setIfInBounds_toArray, List.set_cons_succ, List.set_cons_zero]
                (apply reg_take 44 rfl rfl (by decide +kernel) rfl); (rintro w2 ⟨h1, h2, h3⟩; go_simp; rfl); exact hS1; simp only [List.setIfInBounds_toArray, List.set_cons_succ, List.set_cons_zero]
                (apply reg_take 45 rfl rfl (by decide +kernel) rfl); (rintro w2 ⟨h1, h2, h3⟩; go_simp; rfl); exact hS1; simp only [List.setIfInBounds_toArray, List.set_cons_succ, List.set_cons_zero]
                refine reg_done (by decide +kernel) ?_
                have H7 := Lib.hid (And.intro (H1.out.1.below hb.out) (H1.out.2.below hb.out))
                clear hS0 hS1 cO cF hmb hb
                go_wp2
                go_roundw
                case rel =>
                  (repeat apply Exists.intro)
                  exact ⟨⟨⟨k + 1, hlt, rfl, H7.out⟩⟩, rfl, HV1.out.symm, HV2.out.symm, rfl, rfl, HV1.out.symm, HV2.out.symm, rfl⟩
                case measure => simp only [intOf]; omega
            · obtain rfl : k = N := by omega
              have hltd : decide ((k : Int) < (k : Int)) = false := decide_eq_false (by omega)
              clear hsmr hsr
              have H8 := Lib.hid (And.intro H1.out.1 (H1.out.2.perm (show _ = diskAt TD TS p D4 * (rowS (.slice ca k cc) (strB D4 k) * (rowS fv (strB D k) * (pts mb (.map es ck) * (rowS ov (strB D2 k) * old w)))) from by ac_rfl)))
              go_wp2_with (first
                | (go_at_call 11; refine (sanity_any _).mono ?_; rintro e w' ⟨rfl, hb⟩; replace H8 := Lib.hid (And.intro (H8.out.1.below hb) (H8.out.2.below hb)); clear hb)
                | (go_at_call 24; refine (step_pend H8.out.2).mono ?_; rintro e w' ⟨pv, R, rfl, h2⟩; obtain ⟨pa, pc, rfl, _⟩ := h2.out.2.2 _ _ h2.out.2.1; rw [PL.out.p4]; replace H8 := Lib.hid (And.intro (H8.out.1.below h2.out.1) h2.out.2.1); clear h2))
              go_ret
              exact ⟨rfl, H8.out.1.below_of (H8.out.2.perm (show _ = R * diskAt TD TS p D4 * rowS (.slice ca k cc) (strB D4 k) * rowS fv (strB D k) * pts mb (.map es ck) * rowS ov (strB D2 k) * old w from by ac_rfl))⟩

theorem lasts_any (n : Int) (sv mv kvv : Value) (l m : List OpM) (picks : List Int) (w : World) (hsc : ScrAt w sv l) (hmc : ScrAt w mv m) (hpc : IntsAt w kvv picks) :
    Calls Try.prog 5 #[.int .i64 n, sv, mv, kvv] w fun e w' => e = .returned (.bool true) ∧ Below w.heap.size w w' := by
  by_cases h : 0 ≤ n ∧ n ≤ 40 ∧ l.length ≤ 200 ∧ m.length ≤ 200
  · obtain ⟨h0, h1, h2, h3⟩ := h
    obtain ⟨N, rfl⟩ := Int.eq_ofNat_of_zero_le h0
    exact lasts_yes N sv mv kvv l m picks w hsc hmc hpc (by omega) h2 h3
  · exact lasts_no n sv mv kvv l m w hsc hmc h

set_option maxRecDepth 100000 in
theorem diskLasts_lifted (os : Os) (started : os.Started) (H : Type) (enc : TypeId × Value → H) :
    ReturnsInHanded {} Try.checked os 5 .any (Rows.diskLastsSpec.pre6 enc Try.prog Try.f5 Rows.diskLastsRow.domain false) (Rows.diskLastsSpec.post enc Try.prog Try.f5 false true false false) := by
  refine returnsInHanded_of_change (C := Try.checked) law_own started (by kernel_rfl) Try.func5
    (ChangeSpec.witness6 (enc := enc) (C := Try.checked) false ⟨#[], #[.int .i64 0, .slice none 0 0, .slice none 0 0, .slice none 0 0], []⟩ 8 (by kernel_rfl) (by kernel_rfl) (by kernel_rfl) (by kernel_rfl)) ?_
  intro W base args ds gs before hval0 hW _ _
  have hval : ∀ (j : Nat) t v, Try.f5.params[j]? = some t → args[j]? = some v → Value.okWide Try.prog W .any base t v := hval0
  have hW' := hW
  obtain ⟨p, q, hA0, hV, rfl, _, _⟩ := hW
  have hA : DataW.TrodAll enc Try.prog W 0 (fun _ => true) true Try.f5.params.toList args.toList ds p := hA0
  rw [Try.params5] at hA hval
  obtain ⟨w0, vs0, d0, ds0, p0, q0, hargs, rfl, rfl, h0, r0⟩ := trodAll_cons hA
  obtain ⟨w1, vs1, d1, ds1, p1, q1, rfl, rfl, rfl, h1, r1⟩ := trodAll_cons r0
  obtain ⟨w2, vs2, d2, ds2, p2, q2, rfl, rfl, rfl, h2, r2⟩ := trodAll_cons r1
  obtain ⟨w3, vs3, d3, ds3, p3, q3, rfl, rfl, rfl, h3, r3⟩ := trodAll_cons r2
  obtain ⟨rfl, rfl, rfl⟩ := trodAll_nil r3
  obtain rfl : args = #[w0, w1, w2, w3] := by cases args; simp_all
  obtain ⟨rfl, rfl⟩ := trodVars_none hV
  obtain ⟨a0, rfl, rfl, rfl, _⟩ := open_int Try.underlying3 (hval 0 3 w0 rfl rfl) h0
  obtain ⟨v1, l1, e1, s1⟩ := rd_script (trod_rd h1)
  obtain ⟨x1, y1, z1, rfl⟩ := okWide_slice Try.underlying22 (hval 1 _ w1 rfl rfl)
  obtain rfl : .slice x1 y1 z1 = v1 := by simpa [Value.cells] using e1
  obtain ⟨v2, l2, e2, s2⟩ := rd_script (trod_rd h2)
  obtain ⟨x2, y2, z2, rfl⟩ := okWide_slice Try.underlying22 (hval 2 _ w2 rfl rfl)
  obtain rfl : .slice x2 y2 z2 = v2 := by simpa [Value.cells] using e2
  obtain ⟨v3, l3, e3, s3, _⟩ := rd_ints (trod_rd h3)
  obtain ⟨x3, y3, z3, rfl⟩ := okWide_slice Try.underlying30 (hval 3 _ w3 rfl rfl)
  obtain rfl : .slice x3 y3 z3 = v3 := by simpa [Value.cells] using e3
  refine (lasts_any a0 _ _ _ l1 l2 l3 W s1 s2 s3).mono fun e W' ⟨he, hg⟩ => ?_
  subst he
  exact ⟨_, rfl, law_post (by kernel_rfl) rfl (of_decide_eq_true (by kernel_rfl)) rfl hW' hg⟩

theorem diskLasts_holds : Rows.DiskLastsSaid :=
  OpenClaim.holds_of_wide 5 Try.f5 rfl rfl rfl rfl rfl rfl rfl ⟨rfl, rfl, rfl, rfl, rfl⟩ rfl rfl rfl rfl rfl (by kernel_rfl) Try.func5 (by kernel_rfl)
    (of_decide_eq_true (by kernel_rfl)) (by unfold Func.isWrapper; first | (rw [if_pos (by decide +kernel)]; kernel_rfl) | (rw [if_neg (by decide +kernel)]; exact ⟨rfl, rfl⟩))
    (fun os started H enc _ => diskLasts_lifted os started H enc)

end Go.Proofs.Ytdeblpnkpefbcaa
