/- ShelfFlushedSurvives: after all disks in service were flushed, neither a loss of power nor taking a disk out and putting its image back changes a sector. -/
import Derived.Test.YtogmkbhbmmgidaaTf
import Derived.Test.YtogmkbhbmmgidaaPl
import Derived.Test.YtogmkbhbmmgidaaPf
import Derived.Test.YtogmkbhbmmgidaaSf
import Derived.Test.YtogmkbhbmmgidaaSi
import Derived.Test.YtogmkbhbmmgidaaSj
import Derived.Test.YtogmkbhbmmgidaaCl
namespace Go.Proofs.Ytogmkbhbmmgidaa
open Go.RowKit Go.Sl Go.ChangeMaps Go.ChangeShapes Go.WideShapes Go.ChangeAt

structure DsH (w : World) (X : HProp) (n : Nat) (i : Value) (wr : World) : Prop where
  st : ∃ k : Nat, k ≤ n ∧ i = .int .i64 k ∧ Same w wr ∧ Sat wr X

set_option maxRecDepth 100000 in
set_option maxHeartbeats 8000000 in
theorem survives_law (c : CfgM) (v : Value) (l : List (OpN × Value)) (cp : Int) (pv : Value) (picks : List Int) (d : Int) (w : World) (hscr : ScrN w v l) (hpk : IntsC w pv picks) :
    Calls Try.prog 7 #[.agg (plyA c v cp), pv, .int .i64 d] w fun e w' => e = .returned (.bool true) ∧ Below w.heap.size w w' := by
  obtain ⟨ao, cap, rfl, _⟩ := id hscr
  obtain ⟨pao, pcap, rfl, hpc, _⟩ := id hpk
  have H1 := Lib.hid (And.intro ((Same.refl w).alloc (.cells (plyA c (.slice ao l.length cap) cp) TPlay)) ((Sat.old w).alloc (.cells (plyA c (.slice ao l.length cap) cp) TPlay)))
  have HSC := Lib.hid hscr
  have HPI := Lib.hid hpk
  clear hscr hpk
  go_enter Try.func7, Try.ntmps7
  go_upto_region 2 with (go_at_call 8; refine (sanity_any _ _ H1.out.2).mono ?_; rintro e w1 ⟨rfl, h2⟩; replace H1 := Lib.hid (And.intro (H1.out.1.trans h2.out.1) h2.out.2); clear h2)
  generalize w.heap.size = B0 at H1 ⊢
  obtain ⟨⟨a0, a1, a2, a3, a4, a5⟩, a6, al⟩ := ply_cells H1.out.2
  by_cases hsm : smallB c = true ∧ c.ok = true ∧ l.length ≤ 60
  case neg =>
    have hno : smallB c = false ∨ 60 < l.length ∨ c.ok = false := by
      cases h1 : smallB c
      · exact .inl rfl
      · cases h2 : c.ok
        · exact .inr (.inr rfl)
        · exact .inr (.inl (by have : ¬ l.length ≤ 60 := fun h => hsm ⟨h1, h2, h⟩; omega))
    have HNO := Lib.hid hno
    clear hsm hno
    go_wp2_with (go_at_call 15; refine (built_no c _ l.length ⟨ao, cap, rfl⟩ _ _ H1.out.2 HNO.out).mono ?_; rintro e w3 ⟨rfl, h2⟩; replace H1 := Lib.hid (And.intro (H1.out.1.trans h2.out.1) h2.out.2); clear h2)
    go_ret
    exact ⟨rfl, H1.out.1.below_of H1.out.2⟩
  have HSM := Lib.hid hsm
  clear hsm
  have hb := built_any c (.slice ao l.length cap) l _ w1 H1.out.2 (fun w' h => ScrN.old HSC.out h) HSM.out.1 HSM.out.2.1 HSM.out.2.2
  have hcf0 : (runN (ShelfM.new c) l).cfg = c := runN_cfg l _
  have him0 : (runN (ShelfM.new c) l).images.length ≤ 60 := by
    have h1 := runN_images l (ShelfM.new c)
    have h2 := HSM.out.2.2
    have h3 : (ShelfM.new c).images.length = 0 := rfl
    omega
  generalize runN (ShelfM.new c) l = S0 at hb hcf0 him0
  have H0 := Lib.hid (And.intro hcf0 him0)
  clear hcf0 him0
  go_upto_region 3 with (go_at_call 15; refine hb.mono ?_; rintro e w3 ⟨p, rfl, h2⟩; replace H1 := Lib.hid (And.intro (H1.out.1.trans h2.out.1) h2.out.2); clear h2)
  clear hb a0 a1 a2 a3 a4 a5 a6 al
  by_cases hpl : 200 < picks.length
  case pos =>
    have hpd : decide ((200 : Int) < (picks.length : Int)) = true := decide_eq_true (by omega)
    clear hpl
    go_wp2
    go_ret
    exact ⟨rfl, H1.out.1.below_of (H1.out.2.perm (show _ = (shelfAt SH p S0 * pts B0 (.cells (plyA c (.slice ao l.length cap) cp) TPlay (0, 0))) * old w from by ac_rfl))⟩
  have hpd : decide ((200 : Int) < (picks.length : Int)) = false := decide_eq_false (by omega)
  have HPL := Lib.hid hpl
  clear hpl
  have hm := mount_any p S0 _ (.slice none 0 0) [] w3 H1.out.2 (fun w' _ => IntsC.nil w') (by simp)
  have HM := Lib.hid hm
  clear hm
  go_upto_region 6 with (go_at_call 17; refine HM.out.mono ?_; clear HM; rintro e wa ⟨rfl, h2⟩; replace H1 := Lib.hid (And.intro (H1.out.1.trans h2.out.1) h2.out.2); clear h2)
  have hfa := flushAll_any p (S0.mount []) _ wa H1.out.2
  rw [ShelfM.flushAll_all (S := S0.mount []) rfl rfl] at hfa
  have hcl := ShelfM.clean_all (S0.mount [])
  have hcf : ({ S0.mount [] with bays := (S0.mount []).bays.map ShelfM.clean1 } : ShelfM).cfg = c := H0.out.1
  have him : ({ S0.mount [] with bays := (S0.mount []).bays.map ShelfM.clean1 } : ShelfM).images.length ≤ 1000000 := Nat.le_trans H0.out.2 (by omega)
  generalize ({ S0.mount [] with bays := (S0.mount []).bays.map ShelfM.clean1 } : ShelfM) = S2 at hfa hcl hcf him
  have HFA := Lib.hid hfa
  have HF := Lib.hid (And.intro him (And.intro hcl hcf))
  clear hfa hcl hcf him
  go_upto_region 8 with (go_at_call 21; refine HFA.out.mono ?_; clear HFA; rintro e wb ⟨rfl, h2⟩; replace H1 := Lib.hid (And.intro (H1.out.1.trans h2.out.1) h2.out.2); clear h2)
  have hwf := shelfAt_wf H1.out.2
  have hb1 := small_bound HSM.out.1 HSM.out.2.1
  have hwc : c.WF := HF.out.2.2 ▸ hwf.cfg
  have hdd : (0 ≤ c.disks ∧ c.disks ≤ 6) ∧ ∀ j, j < 4 → 0 ≤ szN c j ∧ szN c j ≤ 24 := by
    refine ⟨⟨by have := hwc.disks; omega, hb1.1⟩, ?_⟩
    intro j hj
    have h1 := hwc.log; have h2 := hwc.image; have h3 := hwc.rows; have h4 := hb1.2
    unfold CfgM.sectors at h4
    unfold szN
    split; omega
    split; omega
    split; omega
    omega
  have HDD := Lib.hid hdd
  clear hwf hb1 hwc hdd
  have hsc := shclone_any p S2 _ wb H1.out.2 HF.out.1
  have HSCL := Lib.hid hsc
  clear hsc
  go_upto_region 9 with (go_at_call 26; refine HSCL.out.mono ?_; clear HSCL; rintro e wc ⟨q, rfl, h2⟩; replace H1 := Lib.hid (And.intro (H1.out.1.trans h2.out.1) (h2.out.2.perm (show _ = shelfAt SH p S2 * (shelfAt SH q S2 * (pts B0 (.cells (plyA c (.slice ao l.length cap) cp) TPlay (0, 0)) * old w)) from by ac_rfl))); clear h2)
  have hm := mount_any p S2 _ (.slice pao picks.length pcap) picks wc H1.out.2 (fun w' h => IntsC.old HPI.out (h.perm (show _ = (shelfAt SH q S2 * pts B0 (.cells (plyA c (.slice ao l.length cap) cp) TPlay (0, 0))) * old w from by ac_rfl))) (by have := HPL.out; omega)
  have HM := Lib.hid hm
  clear hm
  go_upto_region 10 with (go_at_call 17; refine HM.out.mono ?_; clear HM; rintro e wd ⟨rfl, h2⟩; replace H1 := Lib.hid (And.intro (H1.out.1.trans h2.out.1) h2.out.2); clear h2)
  have hwm := shelfAt_wf H1.out.2
  by_cases hst1 : S2.state d = 1
  case pos =>
    have HST1 := Lib.hid hst1
    have hri := ShelfM.reinsert HF.out.2.1 picks hwm hst1
    have hre := remove_any p (S2.mount picks) _ d wd H1.out.2 HF.out.1
    unfold RemOut at hre
    rw [hri.1, hri.2.1] at hre
    generalize hT1 : ((S2.mount picks).remove d).1 = T1 at hre hri
    have HRI := Lib.hid hri
    have HRE := Lib.hid hre
    clear hri hre hT1 hst1 hwm
    go_upto_region 11 with (go_at_call 27; refine HRE.out.mono ?_; clear HRE; rintro e we ⟨rfl, h2⟩; replace H1 := Lib.hid (And.intro (H1.out.1.trans h2.1) h2.2); clear h2)
    have hs1 := state_any p T1 _ d we H1.out.2
    rw [HRI.out.2.2.1] at hs1
    have hin := insert_any p T1 _ d (S2.images.length : Int) we H1.out.2
    rw [HRI.out.2.2.2.1] at hin
    generalize hT2 : (T1.insert d (S2.images.length : Int)).1 = T2 at hin HRI
    have HS1 := Lib.hid hs1
    have HIN := Lib.hid hin
    clear hs1 hin hT2
    go_wp2_with (fail)
    refine HS1.out.mono ?_
    rintro e w' ⟨rfl, rfl⟩
    clear HS1
    go_wp2_with (fail)
    refine HIN.out.mono ?_
    rintro e wf ⟨rfl, h2⟩
    clear HIN
    replace H1 := Lib.hid (And.intro (H1.out.1.trans h2.out.1) h2.out.2)
    clear h2
    have hs2 := state_any p T2 _ d wf H1.out.2
    rw [HRI.out.2.2.2.2.1] at hs2
    have HS2 := Lib.hid hs2
    clear hs2
    go_wp2_with (fail)
    refine HS2.out.mono ?_
    rintro e w' ⟨rfl, rfl⟩
    clear HS2
    have HAL := Lib.hid (And.intro HRI.out.2.2.2.2.2.peek HST1.out)
    clear HRI
    replace H1 := Lib.hid (And.intro H1.out.1 (H1.out.2.perm (show _ = pts B0 (.cells (plyA c (.slice ao l.length cap) cp) TPlay (0, 0)) * (shelfAt SH p T2 * (shelfAt SH q S2 * old w)) from by ac_rfl)))
    obtain ⟨⟨a0, a1, a2, a3, a4, a5⟩, a6, al⟩ := ply_cells H1.out.2
    have hpc := places_any c _ wf H1.out.2 HDD.out.1 HDD.out.2
    have hd6 : c.disks ≤ 6 := HDD.out.1.2
    generalize plsL c c.disks.toNat = L at hpc
    have HPC := Lib.hid hpc
    clear hpc
    go_upto_region 14 with (go_at_call 25; refine HPC.out.mono ?_; clear HPC; rintro e wg ⟨lv, rfl, h2⟩)
    clear a0 a1 a2 a3 a4 a5 a6 al
    have hlen : L.length ≤ 576 := by have h1 := h2.out.2.2; omega
    obtain ⟨lao, lcap, rfl⟩ := ownAt_slice h2.out.2.1
    replace H1 := Lib.hid (And.intro (H1.out.1.trans h2.out.1) (h2.out.2.1.perm (show _ = ownAt TPl 3 (.slice lao L.length lcap) L.length (plsC L) * (shelfAt SH p T2 * (shelfAt SH q S2 * (pts B0 (.cells (plyA c (.slice ao l.length cap) cp) TPlay (0, 0)) * old w))) from by ac_rfl)))
    have HLEN := Lib.hid hlen
    clear h2 hlen hd6
    go_wp2
    go_loopw [14] (fun i wr => DsH w (ownAt TPl 3 (.slice lao L.length lcap) L.length (plsC L) * (shelfAt SH p T2 * (shelfAt SH q S2 * (pts B0 (.cells (plyA c (.slice ao l.length cap) cp) TPlay (0, 0)) * old w)))) L.length i wr) (fun i _ => L.length - (intOf i).toNat)
    case atStart => exact ⟨0, Nat.zero_le _, rfl, H1.out⟩
    case round =>
      clear H1
      obtain ⟨k, hk, rfl, hsm1, hs1⟩ := hrel.st
      clear hrel
      have H1 := Lib.hid (And.intro hsm1 hs1)
      clear hsm1 hs1
      by_cases hlt : k < L.length
      case neg =>
        have hke : k = L.length := by omega
        subst hke
        have hltd : decide ((L.length : Int) < (L.length : Int)) = false := decide_eq_false (by omega)
        have hs3 := state_any q S2 _ d wr (H1.out.2.perm (show _ = shelfAt SH q S2 * (ownAt TPl 3 (.slice lao L.length lcap) L.length (plsC L) * (shelfAt SH p T2 * (pts B0 (.cells (plyA c (.slice ao l.length cap) cp) TPlay (0, 0)) * old w))) from by ac_rfl))
        have HS3 := Lib.hid hs3
        clear hs3 hk hlt
        rw [HAL.out.2] at HS3
        go_wp2_with (go_at_call 16; refine HS3.out.mono ?_; rintro e w' ⟨rfl, rfl⟩)
        go_ret
        exact ⟨rfl, H1.out.1.below_of (H1.out.2.perm (show _ = (ownAt TPl 3 (.slice lao L.length lcap) L.length (plsC L) * (shelfAt SH p T2 * (shelfAt SH q S2 * pts B0 (.cells (plyA c (.slice ao l.length cap) cp) TPlay (0, 0))))) * old w from by ac_rfl))⟩
      have hltd : decide ((k : Int) < (L.length : Int)) = true := decide_eq_true (by omega)
      have hk576 : (k : Int) ≤ 576 := by have := HLEN.out; omega
      obtain ⟨b, hb⟩ : ∃ b, L[k]? = some b := ⟨_, List.getElem?_eq_getElem hlt⟩
      obtain ⟨g, gcap, hv, hcell⟩ := ownAt_cells H1.out.2 (by omega)
      obtain ⟨rfl, _, rfl⟩ : lao = some ⟨g, 0, none⟩ ∧ True ∧ lcap = gcap := by simpa using hv
      have b0 := hcell _ _ (plsC_at L k b hb 0 _ rfl); have b1 := hcell _ _ (plsC_at L k b hb 1 _ rfl); have b2 := hcell _ _ (plsC_at L k b hb 2 _ rfl); rw [Nat.add_zero] at b0
      have hpk := peek_any p T2 (ownAt TPl 3 (.slice (some ⟨g, 0, none⟩) L.length lcap) L.length (plsC L) * (shelfAt SH q S2 * (pts B0 (.cells (plyA c (.slice ao l.length cap) cp) TPlay (0, 0)) * old w))) b wr (H1.out.2.perm (by ac_rfl))
      unfold PeekOut at hpk
      rw [HAL.out.1 b] at hpk
      have hpq := fun (w' : World) h => peek_any q S2 (ownAt TPl 3 (.slice (some ⟨g, 0, none⟩) L.length lcap) L.length (plsC L) * (shelfAt SH p T2 * (pts B0 (.cells (plyA c (.slice ao l.length cap) cp) TPlay (0, 0)) * old w))) b w' h
      unfold PeekOut at hpq
      generalize S2.peek b = r at hpk hpq
      obtain ⟨r1, r2⟩ := r
      simp only at hpk hpq
      have HPK := Lib.hid hpk
      have HPQ := Lib.hid hpq
      have HB := Lib.hid hb
      clear hpk hpq hb hcell hv hk
      go_upto_region 18 with (go_at_call 12; refine HPK.out.mono ?_; clear HPK; rintro e w6 ⟨rfl, h2⟩; replace H1 := Lib.hid (And.intro (H1.out.1.trans h2.1) (h2.2.perm (show _ = shelfAt SH q S2 * (ownAt TPl 3 (.slice (some ⟨g, 0, none⟩) L.length lcap) L.length (plsC L) * (shelfAt SH p T2 * (pts B0 (.cells (plyA c (.slice ao l.length cap) cp) TPlay (0, 0)) * old w))) from by ac_rfl))); clear h2 b0 b1 b2)
      obtain ⟨g', gcap, hv, hcell⟩ := ownAt_cells (H1.out.2.perm (show _ = ownAt TPl 3 (.slice (some ⟨g, 0, none⟩) L.length lcap) L.length (plsC L) * (shelfAt SH q S2 * (shelfAt SH p T2 * (pts B0 (.cells (plyA c (.slice ao l.length cap) cp) TPlay (0, 0)) * old w))) from by ac_rfl)) (by omega)
      obtain ⟨rfl, _, rfl⟩ : g = g' ∧ True ∧ lcap = gcap := by simpa using hv
      have b0 := hcell _ _ (plsC_at L k b HB.out 0 _ rfl); have b1 := hcell _ _ (plsC_at L k b HB.out 1 _ rfl); have b2 := hcell _ _ (plsC_at L k b HB.out 2 _ rfl); rw [Nat.add_zero] at b0
      clear hcell hv
      go_upto_region 19 with (go_at_call 12; refine (HPQ.out _ H1.out.2).mono ?_; clear HPQ; rintro e w7 ⟨rfl, h2⟩; replace H1 := Lib.hid (And.intro (H1.out.1.trans h2.1) (h2.2.perm (show _ = ownAt TPl 3 (.slice (some ⟨g, 0, none⟩) L.length lcap) L.length (plsC L) * (shelfAt SH p T2 * (shelfAt SH q S2 * (pts B0 (.cells (plyA c (.slice ao l.length cap) cp) TPlay (0, 0)) * old w))) from by ac_rfl))); clear h2 b0 b1 b2)
      cases r2
      all_goals
        go_wp2
        refine ⟨⟨k + 1, hlt, rfl, H1.out⟩, ?_⟩
        simp only [intOf]; omega
  case neg =>
    have HST1 := Lib.hid hst1
    have hri := ShelfM.remove_none (S := S2.mount picks) (d := d) (by rw [ShelfM.mount_state]; exact hst1)
    have hre := remove_any p (S2.mount picks) _ d wd H1.out.2 HF.out.1
    unfold RemOut at hre
    rw [hri.1] at hre
    have hal := ShelfM.mount_alike HF.out.2.1 picks
    generalize hT2 : S2.mount picks = T2 at hre hal hri H1
    have hne : ((T2.remove d).2.2 == 0) = false := by simpa using hri.2
    generalize (T2.remove d).2.2 = er at hre hne
    generalize (T2.remove d).2.1 = nr at hre
    have HAL := Lib.hid (And.intro hal.peek HST1.out)
    have HRE := Lib.hid hre
    clear hri hre hT2 hst1 hwm hal
    go_upto_region 11 with (go_at_call 27; refine HRE.out.mono ?_; clear HRE; rintro e we ⟨rfl, h2⟩; replace H1 := Lib.hid (And.intro (H1.out.1.trans h2.1) h2.2); clear h2)
    replace H1 := Lib.hid (And.intro H1.out.1 (H1.out.2.perm (show _ = pts B0 (.cells (plyA c (.slice ao l.length cap) cp) TPlay (0, 0)) * (shelfAt SH p T2 * (shelfAt SH q S2 * old w)) from by ac_rfl)))
    obtain ⟨⟨a0, a1, a2, a3, a4, a5⟩, a6, al⟩ := ply_cells H1.out.2
    have hpc := places_any c _ we H1.out.2 HDD.out.1 HDD.out.2
    have hd6 : c.disks ≤ 6 := HDD.out.1.2
    generalize plsL c c.disks.toNat = L at hpc
    have HPC := Lib.hid hpc
    clear hpc
    go_upto_region 14 with (go_at_call 25; refine HPC.out.mono ?_; clear HPC; rintro e wg ⟨lv, rfl, h2⟩)
    clear a0 a1 a2 a3 a4 a5 a6 al
    have hlen : L.length ≤ 576 := by have h1 := h2.out.2.2; omega
    obtain ⟨lao, lcap, rfl⟩ := ownAt_slice h2.out.2.1
    replace H1 := Lib.hid (And.intro (H1.out.1.trans h2.out.1) (h2.out.2.1.perm (show _ = ownAt TPl 3 (.slice lao L.length lcap) L.length (plsC L) * (shelfAt SH p T2 * (shelfAt SH q S2 * (pts B0 (.cells (plyA c (.slice ao l.length cap) cp) TPlay (0, 0)) * old w))) from by ac_rfl)))
    have HLEN := Lib.hid hlen
    clear h2 hlen hd6
    go_wp2
    go_loopw [14] (fun i wr => DsH w (ownAt TPl 3 (.slice lao L.length lcap) L.length (plsC L) * (shelfAt SH p T2 * (shelfAt SH q S2 * (pts B0 (.cells (plyA c (.slice ao l.length cap) cp) TPlay (0, 0)) * old w)))) L.length i wr) (fun i _ => L.length - (intOf i).toNat)
    case atStart => exact ⟨0, Nat.zero_le _, rfl, H1.out⟩
    case round =>
      clear H1
      obtain ⟨k, hk, rfl, hsm1, hs1⟩ := hrel.st
      clear hrel
      have H1 := Lib.hid (And.intro hsm1 hs1)
      clear hsm1 hs1
      by_cases hlt : k < L.length
      case neg =>
        have hke : k = L.length := by omega
        subst hke
        have hltd : decide ((L.length : Int) < (L.length : Int)) = false := decide_eq_false (by omega)
        have hs3 := state_any q S2 _ d wr (H1.out.2.perm (show _ = shelfAt SH q S2 * (ownAt TPl 3 (.slice lao L.length lcap) L.length (plsC L) * (shelfAt SH p T2 * (pts B0 (.cells (plyA c (.slice ao l.length cap) cp) TPlay (0, 0)) * old w))) from by ac_rfl))
        have HS3 := Lib.hid hs3
        clear hs3 hk hlt
        have hn1 : (S2.state d == 1) = false := by have := HAL.out.2; simpa using this
        generalize S2.state d = st at HS3 hn1
        go_wp2_with (go_at_call 16; refine HS3.out.mono ?_; rintro e w' ⟨rfl, rfl⟩)
        go_ret
        exact ⟨rfl, H1.out.1.below_of (H1.out.2.perm (show _ = (ownAt TPl 3 (.slice lao L.length lcap) L.length (plsC L) * (shelfAt SH p T2 * (shelfAt SH q S2 * pts B0 (.cells (plyA c (.slice ao l.length cap) cp) TPlay (0, 0))))) * old w from by ac_rfl))⟩
      have hltd : decide ((k : Int) < (L.length : Int)) = true := decide_eq_true (by omega)
      have hk576 : (k : Int) ≤ 576 := by have := HLEN.out; omega
      obtain ⟨b, hb⟩ : ∃ b, L[k]? = some b := ⟨_, List.getElem?_eq_getElem hlt⟩
      obtain ⟨g, gcap, hv, hcell⟩ := ownAt_cells H1.out.2 (by omega)
      obtain ⟨rfl, _, rfl⟩ : lao = some ⟨g, 0, none⟩ ∧ True ∧ lcap = gcap := by simpa using hv
      have b0 := hcell _ _ (plsC_at L k b hb 0 _ rfl); have b1 := hcell _ _ (plsC_at L k b hb 1 _ rfl); have b2 := hcell _ _ (plsC_at L k b hb 2 _ rfl); rw [Nat.add_zero] at b0
      have hpk := peek_any p T2 (ownAt TPl 3 (.slice (some ⟨g, 0, none⟩) L.length lcap) L.length (plsC L) * (shelfAt SH q S2 * (pts B0 (.cells (plyA c (.slice ao l.length cap) cp) TPlay (0, 0)) * old w))) b wr (H1.out.2.perm (by ac_rfl))
      unfold PeekOut at hpk
      rw [HAL.out.1 b] at hpk
      have hpq := fun (w' : World) h => peek_any q S2 (ownAt TPl 3 (.slice (some ⟨g, 0, none⟩) L.length lcap) L.length (plsC L) * (shelfAt SH p T2 * (pts B0 (.cells (plyA c (.slice ao l.length cap) cp) TPlay (0, 0)) * old w))) b w' h
      unfold PeekOut at hpq
      generalize S2.peek b = r at hpk hpq
      obtain ⟨r1, r2⟩ := r
      simp only at hpk hpq
      have HPK := Lib.hid hpk
      have HPQ := Lib.hid hpq
      have HB := Lib.hid hb
      clear hpk hpq hb hcell hv hk
      go_upto_region 18 with (go_at_call 12; refine HPK.out.mono ?_; clear HPK; rintro e w6 ⟨rfl, h2⟩; replace H1 := Lib.hid (And.intro (H1.out.1.trans h2.1) (h2.2.perm (show _ = shelfAt SH q S2 * (ownAt TPl 3 (.slice (some ⟨g, 0, none⟩) L.length lcap) L.length (plsC L) * (shelfAt SH p T2 * (pts B0 (.cells (plyA c (.slice ao l.length cap) cp) TPlay (0, 0)) * old w))) from by ac_rfl))); clear h2 b0 b1 b2)
      obtain ⟨g', gcap, hv, hcell⟩ := ownAt_cells (H1.out.2.perm (show _ = ownAt TPl 3 (.slice (some ⟨g, 0, none⟩) L.length lcap) L.length (plsC L) * (shelfAt SH q S2 * (shelfAt SH p T2 * (pts B0 (.cells (plyA c (.slice ao l.length cap) cp) TPlay (0, 0)) * old w))) from by ac_rfl)) (by omega)
      obtain ⟨rfl, _, rfl⟩ : g = g' ∧ True ∧ lcap = gcap := by simpa using hv
      have b0 := hcell _ _ (plsC_at L k b HB.out 0 _ rfl); have b1 := hcell _ _ (plsC_at L k b HB.out 1 _ rfl); have b2 := hcell _ _ (plsC_at L k b HB.out 2 _ rfl); rw [Nat.add_zero] at b0
      clear hcell hv
      go_upto_region 19 with (go_at_call 12; refine (HPQ.out _ H1.out.2).mono ?_; clear HPQ; rintro e w7 ⟨rfl, h2⟩; replace H1 := Lib.hid (And.intro (H1.out.1.trans h2.1) (h2.2.perm (show _ = ownAt TPl 3 (.slice (some ⟨g, 0, none⟩) L.length lcap) L.length (plsC L) * (shelfAt SH p T2 * (shelfAt SH q S2 * (pts B0 (.cells (plyA c (.slice ao l.length cap) cp) TPlay (0, 0)) * old w))) from by ac_rfl))); clear h2 b0 b1 b2)
      cases r2
      all_goals
        go_wp2
        refine ⟨⟨k + 1, hlt, rfl, H1.out⟩, ?_⟩
        simp only [intOf]; omega

set_option maxRecDepth 100000 in
theorem shelfFlushedSurvives_lifted (os : Os) (started : os.Started) (H : Type) (enc : TypeId × Value → H) :
    ReturnsInHanded {} Try.checked os 7 .any (Rows.shelfFlushedSurvivesSpec.pre6 enc Try.prog Try.f7 Rows.shelfFlushedSurvivesRow.domain false) (Rows.shelfFlushedSurvivesSpec.post enc Try.prog Try.f7 false true false false) := by
  refine returnsInHanded_of_change (C := Try.checked) law_own started (by kernel_rfl) Try.func7
    (ChangeSpec.witness6 (enc := enc) (C := Try.checked) false ⟨#[], #[.agg (plyA ⟨0, 0, 0, 0, 0, 0⟩ (.slice none 0 0) 0), .slice none 0 0, .int .i64 0], []⟩ 8 (by kernel_rfl) (by kernel_rfl) (by kernel_rfl) (by kernel_rfl)) ?_
  intro W base args ds gs before hval0 hW _ _
  have hval : ∀ (j : Nat) t v, Try.f7.params[j]? = some t → args[j]? = some v → Value.okWide Try.prog W .any base t v := hval0
  have hW' := hW
  obtain ⟨p, q, hA0, hV, rfl, _, _⟩ := hW
  have hA : DataW.TrodAll enc Try.prog W 0 (fun _ => true) true Try.f7.params.toList args.toList ds p := hA0
  rw [Try.params7] at hA hval
  obtain ⟨w0, vs0, d0, ds0, p0, q0, hargs, rfl, rfl, h0, r0⟩ := trodAll_cons hA
  obtain ⟨w1, vs1, d1, ds1, p1, q1, rfl, rfl, rfl, h1, r1⟩ := trodAll_cons r0
  obtain ⟨w2, vs2, d2, ds2, p2, q2, rfl, rfl, rfl, h2, r2⟩ := trodAll_cons r1
  obtain ⟨rfl, rfl, rfl⟩ := trodAll_nil r2
  obtain rfl : args = #[w0, w1, w2] := by cases args; simp_all
  obtain ⟨rfl, rfl⟩ := trodVars_none hV
  obtain ⟨cs0, rfl, _⟩ := okWide_struct Try.underlying41 (hval 0 _ w0 rfl rfl)
  obtain ⟨c, v, l, cp, e0, hscr, hcp⟩ := rd_play (trod_rd h0)
  obtain rfl : cs0 = plyA c v cp := by apply Array.ext'; simpa [Value.cells] using e0
  obtain ⟨v1, l1, e1, s1, m1⟩ := rd_ints (trod_rd h1)
  obtain ⟨x1, y1, z1, rfl⟩ := okWide_slice Try.underlying57 (hval 1 _ w1 rfl rfl)
  obtain rfl : .slice x1 y1 z1 = v1 := by simpa [Value.cells] using e1
  obtain ⟨b2, rfl, rfl, rfl, wf2⟩ := open_int Try.underlying3 (hval 2 3 w2 rfl rfl) h2
  refine (survives_law c v l cp (.slice x1 y1 z1) l1 b2 W hscr s1).mono fun e W' ⟨he, hg⟩ => ?_
  subst he
  exact ⟨_, rfl, law_post (by kernel_rfl) rfl (of_decide_eq_true (by kernel_rfl)) rfl hW' hg⟩

theorem shelfFlushedSurvives_holds : Rows.ShelfFlushedSurvivesSaid :=
  OpenClaim.holds_of_wide 7 Try.f7 rfl rfl rfl rfl rfl rfl rfl ⟨rfl, rfl, rfl, rfl, rfl⟩ rfl rfl rfl rfl rfl (by kernel_rfl) Try.func7 (by kernel_rfl)
    (of_decide_eq_true (by kernel_rfl)) (by unfold Func.isWrapper; first | (rw [if_pos (by decide +kernel)]; kernel_rfl) | (rw [if_neg (by decide +kernel)]; exact ⟨rfl, rfl⟩))
    (fun os started H enc _ => shelfFlushedSurvives_lifted os started H enc)


end Go.Proofs.Ytogmkbhbmmgidaa
