/- DiskReads: after any writes and flushes, every sector has the content that was last written to it. No condition. -/
import Derived.Test.YtdeblpnkpefbcaaLp
namespace Go.Proofs.Ytdeblpnkpefbcaa
open Go.RowKit Go.Sl Go.ChangeMaps Go.ChangeShapes Go.WideShapes Go.ChangeAt

structure LastInv (D : DiskM) (N : Nat) (kv : KV) : Prop where
  n : D.n = N
  armed : ∀ i, D.armed i = none
  at_ : ∀ i, i < N → (lk kv (i : Int) = none ∧ D.content i = repA 0) ∨ ∃ s, lk kv (i : Int) = some (.string (strV s)) ∧ D.content i = s
theorem LastInv.new (N : Nat) (h : N ≤ 40) : LastInv (DiskM.new (N : Int)) N [] := ⟨by simp only [DiskM.new]; omega, fun _ => rfl, fun _ _ => .inl ⟨rfl, rfl⟩⟩
theorem LastInv.flush {D : DiskM} {N : Nat} {kv : KV} (h : LastInv D N kv) : LastInv D.flush N kv := ⟨h.n, h.armed, h.at_⟩
theorem LastInv.write {D : DiskM} {N : Nat} {kv : KV} (h : LastInv D N kv) {i : Int} {s : List UInt8} (hi : D.has i = true ∧ s.length = 64) : ∃ D', D.write i s = (D', 0) ∧ LastInv D' N (upd kv i (.string (strV s))) := by
  have h2 := DiskM.has_iff.1 hi.1
  obtain ⟨k, rfl⟩ := Int.eq_ofNat_of_zero_le h2.1
  have e : D.write (k : Int) s = (D.put k s, 0) := by unfold DiskM.write; rw [if_pos hi, Int.toNat_natCast]
  have ep : D.put k s = { D with cache := fupd D.cache k (some s) } := by unfold DiskM.put; rw [h.armed k]
  refine ⟨_, e, ?_⟩
  rw [ep]
  refine ⟨h.n, h.armed, fun i hlt => ?_⟩
  rw [lk_upd]
  by_cases hik : i = k
  · subst hik
    exact .inr ⟨s, by simp, by simp [DiskM.content, fupd]⟩
  · rw [if_neg (by omega)]
    have : ({ D with cache := fupd D.cache k (some s) } : DiskM).content i = D.content i := by simp [DiskM.content, fupd, hik]
    rw [this]
    exact h.at_ i hlt

structure ReadSt (w : World) (p N mb : Nat) (l : List OpM) (i : Value) (wr : World) : Prop where
  st : ∃ (k : Nat) (es : Array MapEntry) (ck : Nat) (kv : KV) (D : DiskM), k ≤ l.length ∧ i = .int .i64 k ∧ Same w wr ∧ MapL es ck kv ∧ LastInv D N kv ∧ Sat wr (diskAt TD TS p D * (pts mb (.map es ck) * old w))
structure ReadSt2 (w : World) (p N mb : Nat) (D : DiskM) (es : Array MapEntry) (ck : Nat) (i : Value) (wr : World) : Prop where
  st : ∃ (k : Nat), k ≤ N ∧ i = .int .i64 k ∧ Same w wr ∧ Sat wr (diskAt TD TS p D * (pts mb (.map es ck) * old w))

theorem step_do {p : Nat} {D D' : DiskM} {F : HProp} {w : World} {o : OpM} {pv : Value} {k : Int} (hS : Sat w (diskAt TD TS p D * F)) (hpk : ∀ w', Sat w' F → IntsAt w' pv o.picks) (hd : doM D o = (D', k)) :
    Calls Try.prog 15 #[.pointer (some ⟨p, 0, none⟩), .agg (opA o pv)] w fun e w' => e = .returned (.int .i64 k) ∧ Hid (Same w w' ∧ Sat w' (diskAt TD TS p D' * F)) := by
  have := do_any p D F o pv w hS hpk
  rw [hd] at this; exact this

theorem zeroStr (w : World) : (zeroValue TStr).run Try.prog w = .ok (.string ByteArray.empty) w := by kernel_rfl

set_option maxHeartbeats 400000 in
theorem reads_no (n : Int) (sv : Value) (l : List OpM) (w : World) (hsc : ScrAt w sv l) (h : ¬ (0 ≤ n ∧ n ≤ 40 ∧ l.length ≤ 200)) :
    Calls Try.prog 6 #[.int .i64 n, sv] w fun e w' => e = .returned (.bool true) ∧ Below w.heap.size w w' := by
  obtain ⟨ao, cap, rfl, _⟩ := hsc
  have c1 := few_no n ao l.length cap w h
  clear h
  go_enter Try.func6, Try.ntmps6
  go_wp2_with (first
    | (go_at_call 10; refine c1.mono ?_; rintro e w' ⟨rfl, hw⟩; subst hw)
    | (go_at_call 11; refine (sanity_any _).mono ?_; rintro e w' ⟨rfl, hb⟩; replace hb := Lib.hid hb))
  go_ret
  exact ⟨rfl, hb.out⟩

set_option linter.unusedSimpArgs false in
set_option maxHeartbeats 4000000 in
set_option maxRecDepth 20000 in
theorem reads_yes (N : Nat) (sv : Value) (l : List OpM) (w : World) (hsc : ScrAt w sv l) (hN : N ≤ 40) (hl : l.length ≤ 200) :
    Calls Try.prog 6 #[.int .i64 (N : Int), sv] w fun e w' => e = .returned (.bool true) ∧ Below w.heap.size w w' := by
  obtain ⟨ao, cap, rfl, hsr⟩ := hsc
  have HSR := Lib.hid hsr
  clear hsr
  have HO := Lib.hid (Sat.old w)
  have c1 := few_yes (N : Int) ao l.length cap w (by omega) (by omega) hl
  have hmm := @run_makeMap Try.prog
  go_enter Try.func6, Try.ntmps6
  go_upto_region 6 with (first
    | (go_at_call 10; refine c1.mono ?_; rintro e w' ⟨rfl, hw⟩; subst hw)
    | (go_at_call 12; refine (new_any (N : Int) (emp * old w) w ((emp_star (old w)).symm ▸ HO.out)).mono ?_; rintro e w1 ⟨p, rfl, H1⟩; replace H1 := Lib.hid H1))
  have hs0 := H1.out.2.alloc (.map #[] 0)
  have hsm0 := H1.out.1.alloc (.map #[] 0)
  go_upto_region 7 with (fail)
  clear hmm
  generalize w1.alloc (.map #[] 0) = w2 at hs0 hsm0 ⊢
  generalize w1.heap.size = mb at hs0 ⊢
  have hst : ReadSt w p N mb l (.int .i64 0) w2 := ⟨0, #[], 0, [], DiskM.new (N : Int), Nat.zero_le _, rfl, hsm0, MapL.empty 0, LastInv.new N hN, by have := hs0; rw [emp_star] at this; exact this.perm (by ac_rfl)⟩
  have HST := Lib.hid hst
  clear hst hs0 hsm0
  go_wp2
  go_loopw [26] (fun i wr => ReadSt w p N mb l i wr) (fun i _ => l.length - (intOf i).toNat)
  case atStart => exact HST.out
  case round =>
    obtain ⟨k, es, ck, kv, D, hk, rfl, hsmr, hM, hI, hsr⟩ := hrel.st
    clear hrel
    have HM := Lib.hid hM
    have HIN := Lib.hid hI
    by_cases hlt : k < l.length
    · obtain ⟨o, ho⟩ : ∃ o, l[k]? = some o := ⟨_, List.getElem?_eq_getElem hlt⟩
      obtain ⟨b, off, rfl, hro⟩ := HSR.out (by rintro rfl; simp at hlt)
      obtain ⟨pv, hro1, hint⟩ := hro k o ho
      have hrow : wr.rangeAt b (off + k * 6) (opA o pv).toList := fun t u hu => (World.cell?_of_block ((hsr.perm (show _ = (diskAt TD TS p D * pts mb (.map es ck)) * old w from by ac_rfl)).of_old b (World.block_lt_of_cell? w ⟨b, off + k * 6 + t, none⟩ (hro1 t u hu)))).trans (hro1 t u hu)
      have hone := IntsAt.one hint
      have hltd : decide ((k : Int) < (l.length : Int)) = true := decide_eq_true (by omega)
      have hki : (k : Int) ≤ 200 := by omega
      have hsa := hsr.alloc (.cells (opA o pv) TOp)
      have hsma := hsmr.alloc (.cells (opA o pv) TOp)
      have HI := Lib.hid (show ∀ (B : Nat) w', Sat w' (pts B (.cells (opA o pv) TOp (0, 0)) * (pts mb (.map es ck) * old w)) → IntsAt w' pv o.picks from fun B w' h => IntsAt.old hint (h.perm (show _ = (pts B (.cells (opA o pv) TOp (0, 0)) * pts mb (.map es ck)) * old w from by ac_rfl)))
      clear ho hro hro1 hsmr hsr hint hM hI
      go_upto_region 10 with (first
        | ((with_reducible (apply wp_load_scr hrow)); rfl; rfl; rfl)
        | ((with_reducible (refine wpList_alloc_zero ?_ TOp ?_ _ (zeroTOp _) ?_)); rfl; rfl)
        | ((with_reducible (apply wp_store_opf hone)); rfl; rfl; rfl; rfl))
      clear hrow
      generalize wr.alloc (.cells (opA o pv) TOp) = w1 at hsa hsma ⊢
      generalize wr.heap.size = B at hsa ⊢
      have c0 : w1.cell? ⟨B, 0, none⟩ = some (.int .i64 o.kind) := by rw [cells_at hsa.block]; rfl
      have hrow : w1.rangeAt B 0 (opA o pv).toList := by
        intro j u hu
        rw [cells_at hsa.block, Nat.zero_add, ← hu]; simp
      have H3 := Lib.hid (And.intro hsma (hsa.perm (show _ = diskAt TD TS p D * (pts B (.cells (opA o pv) TOp (0, 0)) * (pts mb (.map es ck) * old w)) from by ac_rfl)))
      clear hsa hsma
      generalize hkd : o.kind = kd at c0
      have HK := Lib.hid hkd
      clear hkd
      by_cases h1 : kd = 1
      · subst h1
        by_cases hok : D.has o.i = true ∧ o.text.length = 64
        · obtain ⟨D', hw, hI'⟩ := HIN.out.write hok
          have hd : doM D o = (D', 0) := by unfold doM; rw [if_pos HK.out, hw]
          have HD := Lib.hid hd
          have HI2 := Lib.hid hI'
          clear hd hw hok hI'
          go_upto_region 12 with (first
            | ((with_reducible (apply wp_load_scr hrow)); rfl; rfl; rfl)
            | (go_at_call 15; refine (step_do H3.out.2 (HI.out B) HD.out).mono ?_; rintro e w' ⟨rfl, h2⟩; replace H3 := Lib.hid (And.intro (H3.out.1.trans h2.out.1) h2.out.2); clear h2 c0 hrow; have c0 : w'.cell? ⟨B, 0, none⟩ = some (.int .i64 o.kind) := (by rw [cells_at ((H3.out.2.perm (show _ = pts B (.cells (opA o pv) TOp (0, 0)) * (diskAt TD TS p _ * (pts mb (.map es ck) * old w)) from by ac_rfl)).block)]; rfl); rw [HK.out] at c0))
          have hsb := H3.out.2.perm (show _ = pts B (.cells (opA o pv) TOp (0, 0)) * (diskAt TD TS p D' * (pts mb (.map es ck) * old w)) from by ac_rfl)
          have hsm := H3.out.1
          clear c0
          have c1 : w'.cell? ⟨B, 1, none⟩ = some (.int .i64 o.i) := by rw [cells_at hsb.block]; rfl
          have hrow : w'.rangeAt B 0 (opA o pv).toList := by
            intro j u hu
            rw [cells_at hsb.block, Nat.zero_add, ← hu]; simp
          have hS0 : w'.drew.cell? ⟨B, 1, none⟩ = some (.int .i64 o.i) ∧ w'.drew.rangeAt B 0 (opA o pv).toList := ⟨c1, hrow⟩
          have hB : B < w'.heap.size := World.block_lt_of_cell? _ _ c1
          refine reg_begin (fun w2 => w2.cell? ⟨B, 1, none⟩ = some (.int .i64 o.i) ∧ w2.rangeAt B 0 (opA o pv).toList) (by kernel_rfl) ?_
          (apply reg_take 0 rfl rfl (by decide +kernel) rfl); (rintro w2 ⟨h1, h2⟩; go_simp; rfl); exact hS0; simp only [List.setIfInBounds_toArray, List.set_cons_succ, List.set_cons_zero]
          (apply reg_take 1 rfl rfl (by decide +kernel) rfl); (rintro w2 ⟨h1, h2⟩; go_simp; rfl); exact hS0; simp only [List.setIfInBounds_toArray, List.set_cons_succ, List.set_cons_zero]
          (apply reg_take 2 rfl rfl (by decide +kernel) rfl); (rintro w2 ⟨h1, h2⟩; go_simp; rfl); exact hS0; simp only [List.setIfInBounds_toArray, List.set_cons_succ, List.set_cons_zero]
          refine reg_take 3 (v := .agg (opA o pv)) rfl rfl (by decide +kernel) rfl (fun w2 h => exec_load rfl rfl (run_loadAt_mid w2 B 0 TOp (opA o pv).toList _ h.2 Try.underlying32 rfl (by rw [infoTOp o pv]; rfl))) hS0 ?_; simp only [List.setIfInBounds_toArray, List.set_cons_succ, List.set_cons_zero]
          refine reg_call 4 rfl rfl (by decide +kernel) rfl (f := 25) (args := #[.agg (opA o pv)]) (R := fun v w2 => v = .string (strV o.text) ∧ Hid (Below w'.heap.size w' w2)) (by kernel_rfl) ((text_any o pv w'.drew).mono fun e w2 h => ⟨_, h.1, rfl, ⟨h.2.out.os, h.2.out.tape, h.2.out.output, h.2.out.size, h.2.out.block⟩⟩) ?_
          rintro _ w3 ⟨rfl, hb⟩
          have hS1 : w3.cell? ⟨B, 1, none⟩ = some (.int .i64 o.i) ∧ w3.rangeAt B 0 (opA o pv).toList := ⟨(hb.out.cell (p := ⟨B, 1, none⟩) hB).trans c1, fun j u hu => (hb.out.cell (p := ⟨B, 0 + j, none⟩) hB).trans (hrow j u hu)⟩
          refine ⟨hS1, ?_⟩
          simp only [List.setIfInBounds_toArray, List.set_cons_succ, List.set_cons_zero]
          have hs3 := (hsb.below hb.out).perm (show _ = pts mb (.map es ck) * (pts B (.cells (opA o pv) TOp (0, 0)) * (diskAt TD TS p D' * old w)) from by ac_rfl)
          obtain ⟨es4, ck4, hup, hM4⟩ := run_mapUpdate_kv (P := Try.prog) (w := w3) Try.underlying48 Try.underlying3 hs3.block HM.out o.i (.string (strV o.text))
          refine reg_do_last 5 (setBlock w3 mb (.map es4 ck4)) rfl rfl (by decide +kernel) rfl (exec_mapUpdate rfl rfl rfl rfl hup) ?_
          have hs4 := hs3.setBlock (o' := .map es4 ck4)
          have hsm4 := (hsm.below hb.out).setBlock (r := mb) (.map es4 ck4)
          have H5 := Lib.hid (And.intro hsm4 hs4)
          have HM4 := Lib.hid hM4
          clear hup hS0 hS1 hs3 hs4 hsm4 hM4 hsb hsm c1 hrow H3
          go_wp2
          go_roundw
          case rel => exact ⟨⟨k + 1, es4, ck4, _, D', hlt, rfl, H5.out.1, HM4.out, HI2.out, (H5.out.2.perm (show _ = pts B (.cells (opA o pv) TOp (0, 0)) * (diskAt TD TS p D' * (pts mb (.map es4 ck4) * old w)) from by ac_rfl)).right⟩⟩
          case measure => simp only [intOf]; omega
        · have hd : doM D o = (D, 1) := by unfold doM DiskM.write; rw [if_pos HK.out, if_neg hok]
          have HD := Lib.hid hd
          clear hd hok
          go_wp2_with (first
            | ((with_reducible (apply wp_load_scr hrow)); rfl; rfl; rfl)
            | (go_at_call 15; refine (step_do H3.out.2 (HI.out B) HD.out).mono ?_; rintro e w' ⟨rfl, h2⟩; replace H3 := Lib.hid (And.intro (H3.out.1.trans h2.out.1) h2.out.2); clear h2 c0 hrow; have c0 : w'.cell? ⟨B, 0, none⟩ = some (.int .i64 o.kind) := (by rw [cells_at ((H3.out.2.perm (show _ = pts B (.cells (opA o pv) TOp (0, 0)) * (diskAt TD TS p _ * (pts mb (.map es ck) * old w)) from by ac_rfl)).block)]; rfl); rw [HK.out] at c0))
          go_roundw
          case rel => exact ⟨⟨k + 1, es, ck, kv, D, hlt, rfl, H3.out.1, HM.out, HIN.out, (H3.out.2.perm (show _ = pts B (.cells (opA o pv) TOp (0, 0)) * (diskAt TD TS p (D) * (pts mb (.map es ck) * old w)) from by ac_rfl)).right⟩⟩
          case measure => simp only [intOf]; omega
      by_cases h2 : kd = 2
      · subst h2
        have hd : doM D o = (D.flush, 0) := by unfold doM; rw [if_neg (by rw [HK.out]; decide), if_pos HK.out]
        have HD := Lib.hid hd
        clear hd
        go_wp2_with (first
          | ((with_reducible (apply wp_load_scr hrow)); rfl; rfl; rfl)
          | (go_at_call 15; refine (step_do H3.out.2 (HI.out B) HD.out).mono ?_; rintro e w' ⟨rfl, h2⟩; replace H3 := Lib.hid (And.intro (H3.out.1.trans h2.out.1) h2.out.2); clear h2 c0 hrow; have c0 : w'.cell? ⟨B, 0, none⟩ = some (.int .i64 o.kind) := (by rw [cells_at ((H3.out.2.perm (show _ = pts B (.cells (opA o pv) TOp (0, 0)) * (diskAt TD TS p _ * (pts mb (.map es ck) * old w)) from by ac_rfl)).block)]; rfl); rw [HK.out] at c0))
        go_roundw
        case rel => exact ⟨⟨k + 1, es, ck, kv, D.flush, hlt, rfl, H3.out.1, HM.out, HIN.out.flush, (H3.out.2.perm (show _ = pts B (.cells (opA o pv) TOp (0, 0)) * (diskAt TD TS p (D.flush) * (pts mb (.map es ck) * old w)) from by ac_rfl)).right⟩⟩
        case measure => simp only [intOf]; omega
      · have q1 : (kd != 1) = true := by simpa using h1
        have q2 : (kd != 2) = true := by simpa using h2
        clear h1 h2
        go_wp2
        go_roundw
        case rel => exact ⟨⟨k + 1, es, ck, kv, D, hlt, rfl, H3.out.1, HM.out, HIN.out, (H3.out.2.perm (show _ = pts B (.cells (opA o pv) TOp (0, 0)) * (diskAt TD TS p (D) * (pts mb (.map es ck) * old w)) from by ac_rfl)).right⟩⟩
        case measure => simp only [intOf]; omega
    · obtain rfl : k = l.length := by omega
      have hltd : decide ((l.length : Int) < (l.length : Int)) = false := decide_eq_false (by omega)
      have H2 := Lib.hid (And.intro hsmr hsr)
      clear hsmr hsr hM hI
      go_wp2
      go_loopw [54] (fun i wr => ReadSt2 w p N mb D es ck i wr) (fun i _ => N - (intOf i).toNat)
      case atStart => exact ⟨⟨0, Nat.zero_le _, rfl, H2.out⟩⟩
      case round =>
        obtain ⟨k, hk, rfl, hsmr, hsr⟩ := hrel.st
        clear hrel
        have H4 := Lib.hid (And.intro hsmr hsr)
        clear hsmr hsr
        by_cases hlt : k < N
        · have hltd : decide ((k : Int) < (N : Int)) = true := decide_eq_true (by omega)
          have hki : (k : Int) ≤ 40 := by omega
          have hrd : D.read (k : Int) = (D.content k, 0) := by unfold DiskM.read; rw [if_pos (by rw [DiskM.has_iff, HIN.out.n]; omega)]; simp
          have HR := Lib.hid hrd
          clear hrd
          go_upto_region 18 with (go_at_call 18; refine (step_read (k : Int) H4.out.2 HR.out).mono ?_; rintro e w' ⟨rfl, hb⟩; replace H4 := Lib.hid (And.intro (H4.out.1.below hb.out) (H4.out.2.below hb.out)); clear hb)
          have hl0 := run_lookup_ok (P := Try.prog) Try.underlying48 Try.underlying3 (zeroStr _) H4.out.2.right.block HM.out (k : Int)
          rcases HIN.out.at_ k hlt with ⟨h0, hc⟩ | ⟨s, h0, hc⟩
          · rw [h0] at hl0
            simp only [Option.getD_none, Option.isSome_none] at hl0
            generalize hX : strV (D.content k) = X
            rw [hc] at hX
            have HX := Lib.hid hX
            clear hX hc h0
            go_wp2_with (first
              | ((with_reducible (apply wpList_lookup_run (h := hl0))); rfl; rfl; rfl; rfl)
              | (go_at_call 19; refine (rep_str _ _).mono ?_; rintro e w' ⟨rfl, hb⟩; rw [HX.out]; replace H4 := Lib.hid (And.intro (H4.out.1.below hb) (H4.out.2.below hb)); clear hb))
            go_roundw
            case rel => exact ⟨⟨k + 1, hlt, rfl, H4.out⟩⟩
            case measure => simp only [intOf]; omega
          · rw [h0] at hl0
            simp only [Option.getD_some, Option.isSome_some] at hl0
            rw [← hc] at hl0
            generalize strV (D.content k) = X at hl0 ⊢
            clear hc h0
            go_wp2_with ((with_reducible (apply wpList_lookup_run (h := hl0))); rfl; rfl; rfl; rfl)
            go_roundw
            case rel => exact ⟨⟨k + 1, hlt, rfl, H4.out⟩⟩
            case measure => simp only [intOf]; omega
        · obtain rfl : k = N := by omega
          have hltd : decide ((k : Int) < (k : Int)) = false := decide_eq_false (by omega)
          go_wp2_with (go_at_call 11; refine (sanity_any _).mono ?_; rintro e w' ⟨rfl, hb⟩; replace H4 := Lib.hid (And.intro (H4.out.1.below hb) (H4.out.2.below hb)); clear hb)
          go_ret
          exact ⟨rfl, H4.out.1.below_of (H4.out.2.perm (show _ = diskAt TD TS p D * pts mb (.map es ck) * old w from by ac_rfl))⟩

theorem reads_any (n : Int) (sv : Value) (l : List OpM) (w : World) (hsc : ScrAt w sv l) :
    Calls Try.prog 6 #[.int .i64 n, sv] w fun e w' => e = .returned (.bool true) ∧ Below w.heap.size w w' := by
  by_cases h : 0 ≤ n ∧ n ≤ 40 ∧ l.length ≤ 200
  · obtain ⟨h0, h1, h2⟩ := h
    obtain ⟨N, rfl⟩ := Int.eq_ofNat_of_zero_le h0
    exact reads_yes N sv l w hsc (by omega) h2
  · exact reads_no n sv l w hsc h

set_option maxRecDepth 100000 in
theorem diskReads_lifted (os : Os) (started : os.Started) (H : Type) (enc : TypeId × Value → H) :
    ReturnsInHanded {} Try.checked os 6 .any (Rows.diskReadsSpec.pre6 enc Try.prog Try.f6 Rows.diskReadsRow.domain false) (Rows.diskReadsSpec.post enc Try.prog Try.f6 false true false false) := by
  refine returnsInHanded_of_change (C := Try.checked) law_own started (by kernel_rfl) Try.func6
    (ChangeSpec.witness6 (enc := enc) (C := Try.checked) false ⟨#[], #[.int .i64 0, .slice none 0 0], []⟩ 8 (by kernel_rfl) (by kernel_rfl) (by kernel_rfl) (by kernel_rfl)) ?_
  intro W base args ds gs before hval0 hW _ _
  have hval : ∀ (j : Nat) t v, Try.f6.params[j]? = some t → args[j]? = some v → Value.okWide Try.prog W .any base t v := hval0
  have hW' := hW
  obtain ⟨p, q, hA0, hV, rfl, _, _⟩ := hW
  have hA : DataW.TrodAll enc Try.prog W 0 (fun _ => true) true Try.f6.params.toList args.toList ds p := hA0
  rw [Try.params6] at hA hval
  obtain ⟨w0, vs0, d0, ds0, p0, q0, hargs, rfl, rfl, h0, r0⟩ := trodAll_cons hA
  obtain ⟨w1, vs1, d1, ds1, p1, q1, rfl, rfl, rfl, h1, r1⟩ := trodAll_cons r0
  obtain ⟨rfl, rfl, rfl⟩ := trodAll_nil r1
  obtain rfl : args = #[w0, w1] := by cases args; simp_all
  obtain ⟨rfl, rfl⟩ := trodVars_none hV
  obtain ⟨a0, rfl, rfl, rfl, _⟩ := open_int Try.underlying3 (hval 0 3 w0 rfl rfl) h0
  obtain ⟨v1, l1, e1, s1⟩ := rd_script (trod_rd h1)
  obtain ⟨x1, y1, z1, rfl⟩ := okWide_slice Try.underlying22 (hval 1 _ w1 rfl rfl)
  obtain rfl : .slice x1 y1 z1 = v1 := by simpa [Value.cells] using e1
  refine (reads_any a0 _ l1 W s1).mono fun e W' ⟨he, hg⟩ => ?_
  subst he
  exact ⟨_, rfl, law_post (by kernel_rfl) rfl (of_decide_eq_true (by kernel_rfl)) rfl hW' hg⟩

theorem diskReads_holds : Rows.DiskReadsSaid :=
  OpenClaim.holds_of_wide 6 Try.f6 rfl rfl rfl rfl rfl rfl rfl ⟨rfl, rfl, rfl, rfl, rfl⟩ rfl rfl rfl rfl rfl (by kernel_rfl) Try.func6 (by kernel_rfl)
    (of_decide_eq_true (by kernel_rfl)) (by unfold Func.isWrapper; first | (rw [if_pos (by decide +kernel)]; kernel_rfl) | (rw [if_neg (by decide +kernel)]; exact ⟨rfl, rfl⟩))
    (fun os started H enc _ => diskReads_lifted os started H enc)

end Go.Proofs.Ytdeblpnkpefbcaa
