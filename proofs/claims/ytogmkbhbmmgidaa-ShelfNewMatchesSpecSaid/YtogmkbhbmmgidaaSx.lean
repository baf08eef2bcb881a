/- shelf.FlushAll, Mount. -/
import Derived.Test.YtogmkbhbmmgidaaSw
import Derived.Test.YtogmkbhbmmgidaaCu
namespace Go.Proofs.Ytogmkbhbmmgidaa
open Go.RowKit Go.Sl Go.ChangeMaps

structure FaSt (w : World) (p : Nat) (S : ShelfM) (vb : Value) (F : HProp) (n : Nat) (i : Value) (wr : World) : Prop where
  st : ∃ (k : Nat) (S' : ShelfM), k ≤ n ∧ i = .int .i64 k ∧ S'.bays.length = n ∧ S.flushFrom 0 n = S'.flushFrom k (n - k) ∧ Same w wr ∧ Sat wr (shelfV SH p S' vb * F)

set_option maxHeartbeats 2000000 in
theorem flushAll_any (p : Nat) (S : ShelfM) (F : HProp) (w : World) (hS : Sat w (shelfAt SH p S * F)) :
    Calls Try.prog 21 #[.pointer (some ⟨p, 0, none⟩)] w fun e w' => e = .returned (.int .i64 S.flushAll.2) ∧ Hid (Same w w' ∧ Sat w' (shelfAt SH p S.flushAll.1 * F)) := by
  have hwf := shelfAt_wf hS
  obtain ⟨vb, hV⟩ := shelfAt_V.1 hS
  have hn0 : 0 < S.bays.length := by rw [hwf.bays]; have := hwf.cfg.disks; omega
  have hn64 : S.bays.length ≤ 64 := by rw [hwf.bays]; have := hwf.cfg.disks; omega
  obtain ⟨g, cap, q, vi, G, rfl, hs, _, _, _, _, _, _⟩ := shelf_bayV hV (d := 0) hn0
  obtain ⟨⟨q6, q7, q8, q9, q10⟩, hp, hfp, hra⟩ := shelf_cells hs
  have HS := Lib.hid hS
  have HV := Lib.hid hV
  have hfa : S.flushAll = if S.off then (S, 14) else S.flushFrom 0 S.bays.length := rfl
  obtain ⟨n, hnn⟩ : ∃ n, S.bays.length = n := ⟨_, rfl⟩
  rw [hnn] at q6 hn0 hn64 hfa
  have HNN := Lib.hid hnn
  clear hs hS hV hfp hra hwf q7 q9 q10
  cases ho : S.off
  · rw [ho] at q8 hfa
    rw [if_neg (by decide)] at hfa
    rw [hfa]
    clear hfa ho
    go_enter Try.func21, Try.ntmps21
    go_wp2
    rw [hnn] at HV
    clear hnn
    go_loopw [3, 4, 5, 15] (fun _ _ _ i wr => FaSt w p S (.slice (some ⟨g, 0, none⟩) n cap) F n i wr) (fun _ _ _ i _ => n - (intOf i).toNat)
    case atStart => exact ⟨0, S, by omega, rfl, HNN.out, rfl, Same.refl w, HV.out⟩
    case round =>
      obtain ⟨k, S', hk, rfl, hlen, hff, hsm, hV'⟩ := hrel.st
      clear hrel
      have HH := Lib.hid (And.intro hff (And.intro hsm hV'))
      have HLN := Lib.hid hlen
      by_cases hlt : k < n
      · have hltd : decide ((k : Int) < (n : Int)) = true := decide_eq_true (by omega)
        obtain ⟨g', cap', q', vi', G', hvb, hs', ⟨hpg, hg⟩, b0, b1, hf, _, _⟩ := shelf_bayV hV' (d := k) (by omega)
        simp only [Value.slice.injEq, Option.some.injEq, Addr.mk.injEq, and_true] at hvb
        obtain ⟨rfl, hnl, rfl⟩ := hvb
        clear hnl
        unfold ptrV at b0
        have hfl := ShelfM.flushFrom_lt S' k n hlt
        have HFL := Lib.hid hfl
        obtain ⟨st, hst⟩ : ∃ st, S'.state (k : Int) = st := ⟨_, rfl⟩
        rw [hst] at b1
        have HST := Lib.hid hst
        clear hs' hf hfl hst hff hsm hV' hlen
        by_cases h1 : st = 1
        · subst h1
          go_upto_region 7 with (fail)
          have hc := sflush_anyV p S' (.slice (some ⟨g, 0, none⟩) n cap) F k _ ((HH.out.2.2).allocKeep (.cells #[.pointer (some ⟨q', 0, none⟩), .int .i64 1] TBay))
          obtain ⟨⟨S2, e2⟩, hfl2⟩ : ∃ r, S'.flush (k : Int) = r := ⟨_, rfl⟩
          rw [hfl2] at hc
          have HF2 := Lib.hid hfl2
          simp only at hc
          clear hfl2
          by_cases he : e2 = 0
          · subst he
            go_wp2_with (go_at_call 19; refine hc.mono ?_; rintro e w' ⟨rfl, h2⟩; clear hc)
            go_roundw
            case rel =>
              refine ⟨⟨k + 1, S2, by omega, rfl, ?_, ?_, (HH.out.2.1.alloc _).trans h2.out.1, h2.out.2⟩⟩
              · have := ShelfM.flush_len S' k; rw [HF2.out] at this; rw [← HLN.out]; exact this
              · rw [HH.out.1, HFL.out, if_neg (by rw [HST.out]; decide), HF2.out]; rfl
            case measure => simp only [intOf]; omega
          · have heb : (e2 != 0) = true := by simp [he]
            go_wp2_with (go_at_call 19; refine hc.mono ?_; rintro e w' ⟨rfl, h2⟩; clear hc)
            go_ret
            have hr : S.flushFrom 0 n = (S2, e2) := by rw [HH.out.1, HFL.out, if_neg (by rw [HST.out]; simp), HF2.out, if_pos (by simpa using he)]
            rw [hr]
            exact ⟨rfl, (HH.out.2.1.alloc _).trans h2.out.1, shelfAt_V.2 ⟨_, h2.out.2⟩⟩
        · have h1b : (st != 1) = true := by simp [h1]
          go_wp2
          go_roundw
          case rel =>
            refine ⟨⟨k + 1, S', by omega, rfl, HLN.out, ?_, HH.out.2.1.alloc _, HH.out.2.2.allocKeep _⟩⟩
            rw [HH.out.1, HFL.out, if_pos (by rw [HST.out]; exact h1)]
          case measure => simp only [intOf]; omega
      · have hltd : decide ((k : Int) < (n : Int)) = false := decide_eq_false (by omega)
        have hkn : k = n := by omega
        clear hff hsm hV' hlen
        go_wp2
        go_ret
        have hr : S.flushFrom 0 n = (S', 0) := by rw [HH.out.1, show n - k = 0 by omega]; rfl
        rw [hr]
        exact ⟨rfl, HH.out.2.1, shelfAt_V.2 ⟨_, HH.out.2.2⟩⟩
  · rw [ho] at q8 hfa
    rw [if_pos rfl] at hfa
    rw [hfa]
    clear hfa ho hnn
    go_enter Try.func21, Try.ntmps21
    go_wp2
    go_ret
    exact ⟨rfl, Same.refl w, HS.out⟩

theorem cutBays_none {b : BayM} {r : List BayM} {l : List Int} (h : b.state ≠ 1) : ShelfM.cutBays (b :: r) l = b :: ShelfM.cutBays r l := by
  show (if b.state = 1 then _ else _) = _
  rw [if_neg h]
theorem cutBays_one {b : BayM} {r : List BayM} {l : List Int} (h : b.state = 1) : ShelfM.cutBays (b :: r) l = ⟨b.disk.cut (l.take b.disk.pending.length), 1⟩ :: ShelfM.cutBays r (l.drop b.disk.pending.length) := by
  show (if b.state = 1 then _ else _) = _
  rw [if_pos h]
theorem infoInt : (Try.prog.info? TInt).map (·.size) = some 1 := by kernel_rfl
structure MoSt (w : World) (p : Nat) (S : ShelfM) (vb : Value) (F : HProp) (n : Nat) (picks : List Int) (pv i : Value) (wr : World) : Prop where
  st : ∃ (k : Nat) (dn : List BayM) (pk : List Int), k ≤ n ∧ i = .int .i64 k ∧ dn.length = k ∧ ShelfM.cutBays S.bays picks = dn ++ ShelfM.cutBays (S.bays.drop k) pk ∧ (∀ w', Sat w' F → IntsC w' pv pk) ∧ pk.length ≤ 9223372036854775807 ∧ Same w wr ∧ Sat wr (shelfV SH p { S with bays := dn ++ S.bays.drop k } vb * F)

set_option maxHeartbeats 2000000 in
theorem mount_any (p : Nat) (S : ShelfM) (F : HProp) (pv : Value) (picks : List Int) (w : World) (hS : Sat w (shelfAt SH p S * F)) (hpk : ∀ w', Sat w' F → IntsC w' pv picks) (hpl : picks.length ≤ 9223372036854775807) :
    Calls Try.prog 17 #[.pointer (some ⟨p, 0, none⟩), pv] w fun e w' => e = .returned (.tuple #[]) ∧ Hid (Same w w' ∧ Sat w' (shelfAt SH p (S.mount picks) * F)) := by
  have hwf := shelfAt_wf hS
  obtain ⟨vb, hV⟩ := shelfAt_V.1 hS
  have hn0 : 0 < S.bays.length := by rw [hwf.bays]; have := hwf.cfg.disks; omega
  have hn64 : S.bays.length ≤ 64 := by rw [hwf.bays]; have := hwf.cfg.disks; omega
  obtain ⟨g, cap, q, vi, G, rfl, hs, h1, h2, h3, h4, h5, h6⟩ := shelf_bayV hV (d := 0) hn0
  obtain ⟨⟨q6, q7, q8, q9, q10⟩, hp, hfp, hra⟩ := shelf_cells hs
  have HS := Lib.hid hS
  have HV := Lib.hid hV
  have HPK := Lib.hid hpk
  obtain ⟨n, hnn⟩ : ∃ n, S.bays.length = n := ⟨_, rfl⟩
  rw [hnn] at q6 hn0 hn64 HV
  have HNN := Lib.hid hnn
  clear hs hS hV hfp hra hwf q7 q8 q9 q10 h1 h2 h3 h4 h5 h6 hnn hpk
  go_enter Try.func17, Try.ntmps17
  go_wp2
  go_loopw [1, 5, 6, 12] (fun pv _ _ i wr => MoSt w p S (.slice (some ⟨g, 0, none⟩) n cap) F n picks pv i wr) (fun _ _ _ i _ => n - (intOf i).toNat)
  case atStart => exact ⟨0, [], picks, by omega, rfl, rfl, rfl, HPK.out, hpl, Same.refl w, HV.out⟩
  case round =>
    obtain ⟨k, dn, pk, hk, rfl, hdn, hcb, hpk, hpkl, hsm, hV'⟩ := hrel.st
    clear hrel HPK
    obtain ⟨ao, pc, rfl, _, _⟩ := hpk _ hV'.right
    have HH := Lib.hid (And.intro hcb (And.intro hsm hV'))
    have HPK := Lib.hid hpk
    have HDN := Lib.hid hdn
    by_cases hlt : k < n
    · have hltd : decide ((k : Int) < (n : Int)) = true := decide_eq_true (by omega)
      have hn2 := HNN.out
      have hblen : (dn ++ S.bays.drop k).length = n := by rw [List.length_append, List.length_drop]; omega
      obtain ⟨b, hb⟩ : ∃ b, S.bays[k]? = some b := ⟨_, List.getElem?_eq_getElem (by omega)⟩
      have hdrop : S.bays.drop k = b :: S.bays.drop (k + 1) := by
        rw [List.drop_eq_getElem_cons (by omega)]; congr 1
        rw [List.getElem?_eq_getElem (by omega)] at hb; exact Option.some.inj hb
      have hSb : (dn ++ S.bays.drop k)[k]? = some b := by rw [List.getElem?_append_right (by omega), hdn, Nat.sub_self, hdrop]; rfl
      have hbo := ShelfM.bay_of (S := { S with bays := dn ++ S.bays.drop k }) (d := (k : Int)) (by omega) (by show (k : Int) < ((dn ++ S.bays.drop k).length : Int); omega)
      rw [Int.toNat_natCast] at hbo
      have hbb := hSb.symm.trans hbo
      injection hbb with hbb
      obtain ⟨g', cap', q', vi', G', hvb, hs', ⟨hpg, hg⟩, b0, b1, hf, hcl, h7⟩ := shelf_bayV hV' (d := k) (by show k < (dn ++ S.bays.drop k).length; omega)
      rw [show ({ S with bays := dn ++ S.bays.drop k } : ShelfM).bays.length = n from hblen] at hvb hs' hcl
      simp only [Value.slice.injEq, Option.some.injEq, Addr.mk.injEq, and_true, true_and] at hvb
      obtain ⟨rfl, rfl⟩ := hvb
      have hbs : b.state = ({ S with bays := dn ++ S.bays.drop k } : ShelfM).state k := by rw [hbb]
      have hbd : b.disk = ({ S with bays := dn ++ S.bays.drop k } : ShelfM).disk k := by rw [hbb]
      rw [← hbs] at b1
      rw [← hbd] at hs'
      unfold ptrV at b0
      obtain ⟨st, hst⟩ : ∃ st, b.state = st := ⟨_, rfl⟩
      rw [hst] at b1
      have HB := Lib.hid (And.intro hst (And.intro hbs hdrop))
      have HBD := Lib.hid hbd
      have HSS := Lib.hid hs'
      have HCL := Lib.hid hcl
      have HWF' := Lib.hid (shelfAt_wf (shelfAt_V.2 ⟨_, hV'⟩))
      clear hs' hf hst hsm hV' hdn hcb hpk hcl h7 hbs hbd hbb hbo hSb hdrop hb hblen hn2 HV HS
      by_cases h1 : st = 1
      · subst h1
        have hA := (HSS.out.alloc (.cells #[.pointer (some ⟨q', 0, none⟩), .int .i64 1] TBay)).perm (show _ = diskAt TD TS q' b.disk * (pts wr.heap.size (.cells #[.pointer (some ⟨q', 0, none⟩), .int .i64 1] TBay (0, 0)) * (pts p (.cells (shelfC S.cfg (.slice (some ⟨g, 0, none⟩) n cap) vi' S.off S.fused S.left) TSh (0, 0)) * (F * G'))) from by ac_rfl)
        have hpd := pending_any q' b.disk _ _ hA
        have HA := Lib.hid (And.intro ((HH.out.2.1.alloc (.cells #[.pointer (some ⟨q', 0, none⟩), .int .i64 1] TBay))) hA)
        obtain ⟨pl, hple⟩ : ∃ pl, b.disk.pending.length = pl := ⟨_, rfl⟩
        rw [hple] at hpd
        have HPL := Lib.hid hple
        have hpl2 : pl ≤ 65536 := by
          have h1 : b.disk.pending.length ≤ b.disk.n := by unfold DiskM.pending; exact Nat.le_trans (List.length_filter_le _ _) (by simp)
          have h2 := (diskAt_wf hA).small
          omega
        clear hA hple
        go_upto_region 5 with (go_at_call 45; refine hpd.mono ?_; rintro e w2 ⟨pvv, rfl, hb2, hrow, _⟩; obtain ⟨ao2, pc2, rfl⟩ : ∃ ao2 pc2, pvv = .slice ao2 pl pc2 := by { rcases hrow.2 with ⟨rfl, h0⟩ | ⟨g2, cap2, cur2, rfl, _⟩; exact ⟨_, _, by rw [h0]⟩; exact ⟨_, _, rfl⟩ }; replace HA := Lib.hid (And.intro (HA.out.1.below hb2) (HA.out.2.below hb2)); clear hb2 hrow hpd)
        generalize wr.heap.size = B5 at HA ⊢
        obtain ⟨m, hm⟩ : ∃ m, min pl pk.length = m := ⟨_, rfl⟩
        have hmi : min (pl : Int) (pk.length : Int) = (m : Int) := by omega
        have hm1 : m ≤ pk.length := by omega
        have htk : pk.take b.disk.pending.length = pk.take m := by rw [HPL.out, ← hm]; rw [List.take_eq_take_iff]; omega
        have hdk : pk.drop b.disk.pending.length = pk.drop m := by
          rw [HPL.out, ← hm]
          rcases Nat.le_total pl pk.length with h | h
          · rw [Nat.min_eq_left h]
          · rw [Nat.min_eq_right h, List.drop_eq_nil_of_le h, List.drop_eq_nil_of_le (Nat.le_refl _)]
        rw [hmi]
        have HTD := Lib.hid (And.intro htk hdk)
        have hsF : ∀ (w' : World) (D : DiskM), Sat w' (diskAt TD TS q' D * (pts B5 (.cells #[.pointer (some ⟨q', 0, none⟩), .int .i64 1] TBay (0, 0)) * (pts p (.cells (shelfC S.cfg (.slice (some ⟨g, 0, none⟩) n cap) vi' S.off S.fused S.left) TSh (0, 0)) * (F * G')))) → Sat w' F := fun w' D h => h.right.right.right.left
        obtain ⟨v1, hv1, hvi1⟩ := slice_hi (P := Try.prog) (HPK.out _ (hsF _ _ HA.out.2)) hm1 Try.underlying57 infoInt
        have HV1 := Lib.hid hv1
        have hcut := cut_any q' b.disk _ v1 (pk.take m) w2.drew HA.out.2.drew (fun w' h => (hvi1 w' (HPK.out w' h.right.right.left)).at)
        have c5 : w2.drew.cell? ⟨B5, 0, none⟩ = some (.pointer (some ⟨q', 0, none⟩)) := cells_at HA.out.2.right.block 0
        clear hm hmi htk hdk hv1 hvi1
        refine reg_begin (fun w' => w'.cell? ⟨B5, 0, none⟩ = some (.pointer (some ⟨q', 0, none⟩))) (by kernel_rfl) ?_
        (apply reg_take 0 rfl rfl (by decide +kernel) rfl); (intro w' hw'; go_simp; rfl); exact c5; simp only [List.setIfInBounds_toArray, List.set_cons_succ, List.set_cons_zero]
        (apply reg_take 1 rfl rfl (by decide +kernel) rfl); (intro w' hw'; go_simp; rfl); exact c5; simp only [List.setIfInBounds_toArray, List.set_cons_succ, List.set_cons_zero]
        (apply reg_take 2 rfl rfl (by decide +kernel) rfl); (intro w' hw'; go_simp; rfl); exact c5; simp only [List.setIfInBounds_toArray, List.set_cons_succ, List.set_cons_zero]
        (apply reg_take 3 rfl rfl (by decide +kernel) rfl); (intro w' hw'; go_simp; rfl); exact c5; simp only [List.setIfInBounds_toArray, List.set_cons_succ, List.set_cons_zero]
        refine reg_take 4 (v := v1) rfl rfl (by decide +kernel) rfl (fun _ _ => exec_slice_run rfl rfl (HV1.out _)) c5 ?_; simp only [List.setIfInBounds_toArray, List.set_cons_succ, List.set_cons_zero]
        refine reg_call 5 rfl rfl (by decide +kernel) rfl (f := 46) (args := #[.pointer (some ⟨q', 0, none⟩), v1]) (R := fun v w' => v = .tuple #[] ∧ Hid (Same w w' ∧ Sat w' (diskAt TD TS q' (b.disk.cut (pk.take m)) * (pts B5 (.cells #[.pointer (some ⟨q', 0, none⟩), .int .i64 1] TBay (0, 0)) * (pts p (.cells (shelfC S.cfg (.slice (some ⟨g, 0, none⟩) n cap) vi' S.off S.fused S.left) TSh (0, 0)) * (F * G')))))) (by kernel_rfl) (hcut.mono fun e w' h => ⟨_, h.1, rfl, HA.out.1.drew.trans h.2.1, h.2.2⟩) ?_
        rintro _ w3 ⟨rfl, h3⟩
        refine ⟨cells_at h3.out.2.right.block 0, ?_⟩
        simp only [List.setIfInBounds_toArray, List.set_cons_succ, List.set_cons_zero]
        refine reg_done (by decide +kernel) ?_
        clear hcut c5
        go_wp2
        go_roundw
        case rel =>
          refine ⟨⟨k + 1, dn ++ [⟨b.disk.cut (pk.take m), 1⟩], pk.drop m, by omega, rfl, by rw [List.length_append, HDN.out]; rfl, ?_, fun w' h => (HPK.out w' h).drop hm1, by rw [List.length_drop]; omega, h3.out.1, ?_⟩⟩
          · rw [HH.out.1, HB.out.2.2, cutBays_one HB.out.1, HTD.out.1, HTD.out.2]; simp
          · have hset : (dn ++ S.bays.drop k).set k ⟨b.disk.cut (pk.take m), 1⟩ = (dn ++ [⟨b.disk.cut (pk.take m), 1⟩]) ++ S.bays.drop (k + 1) := by
              rw [HB.out.2.2, List.set_append_right _ _ (by rw [HDN.out]; exact Nat.le_refl _), HDN.out, Nat.sub_self]; simp
            have hst1 : ({ S with bays := dn ++ S.bays.drop k } : ShelfM).state k = 1 := by rw [← HB.out.2.1]; exact HB.out.1
            have hdb : ({ S with bays := dn ++ S.bays.drop k } : ShelfM).disk k = b.disk := HBD.out.symm
            have hwf2 := HWF'.out.setDisk (d := (k : Int)) (D := b.disk.cut (pk.take m)) (by rw [hst1]; decide) (by rw [hdb]; rfl)
            have h8 := HCL.out w3 (({ S with bays := dn ++ S.bays.drop k } : ShelfM).setDisk k (b.disk.cut (pk.take m))) (b.disk.cut (pk.take m)) F hwf2 rfl rfl rfl
              ((h3.out.2.perm (show _ = pts B5 (.cells #[.pointer (some ⟨q', 0, none⟩), .int .i64 1] TBay (0, 0)) * (pts p (.cells (shelfC S.cfg (.slice (some ⟨g, 0, none⟩) n cap) vi' S.off S.fused S.left) TSh (0, 0)) * (diskAt TD TS q' (b.disk.cut (pk.take m)) * (F * G'))) from by ac_rfl)).right)
            have e9 : (({ S with bays := dn ++ S.bays.drop k } : ShelfM).setDisk k (b.disk.cut (pk.take m))) = { S with bays := (dn ++ [⟨b.disk.cut (pk.take m), 1⟩]) ++ S.bays.drop (k + 1) } := by
              unfold ShelfM.setDisk ShelfM.setBay
              rw [hst1, Int.toNat_natCast, hset]
            rw [e9] at h8
            exact h8
        case measure => simp only [intOf]; omega
      · have h1b : (st == 1) = false := by simp [h1]
        go_wp2
        go_roundw
        case rel =>
          refine ⟨⟨k + 1, dn ++ [b], pk, by omega, rfl, by rw [List.length_append, HDN.out]; rfl, ?_, HPK.out, hpkl, HH.out.2.1.alloc _, ?_⟩⟩
          · rw [HH.out.1, HB.out.2.2, cutBays_none (by rw [HB.out.1]; exact h1)]; simp
          · have := HH.out.2.2.allocKeep (.cells #[.pointer (some ⟨q', 0, none⟩), .int .i64 st] TBay)
            rw [HB.out.2.2] at this
            rw [List.append_assoc]; exact this
        case measure => simp only [intOf]; omega
    · have hltd : decide ((k : Int) < (n : Int)) = false := decide_eq_false (by omega)
      obtain rfl : k = n := by omega
      have e1 : S.bays.drop k = [] := List.drop_eq_nil_of_le (by rw [HNN.out]; exact Nat.le_refl _)
      rw [e1] at hcb hV'
      have hcb2 : ShelfM.cutBays S.bays picks = dn := by rw [hcb]; simp [ShelfM.cutBays]
      rw [List.append_nil, ← hcb2] at hV'
      have hfin : Sat ((wr.setCell ⟨p, 8, none⟩ (.bool false)).setCell ⟨p, 9, none⟩ (.bool false)) (shelfAt SH p (S.mount picks) * F) := by
        have hw := shelfAt_wf (shelfAt_V.2 ⟨_, hV'⟩)
        refine Sat.shelfSet (shelfAt_V.2 ⟨_, hV'⟩) ⟨hw.cfg, hw.bays, hw.st, hw.images, fun h => by cases h⟩ rfl rfl rfl ?_
        rintro _ _ vb vi G rfl rfl h
        exact (h.setCell _).setCell _
      have HF := Lib.hid hfin
      have HSM := Lib.hid hsm
      obtain ⟨_, _, _, _, hs9⟩ := shelfV_iff.1 hV'
      obtain ⟨⟨q6', q7', q8', q9', q10'⟩, hp', hfp', hra'⟩ := shelf_cells hs9
      clear hsm hV' hdn hcb hpk e1 hcb2 hfin hs9 hra'
      go_wp2
      first | go_end0 | go_ret
      exact ⟨rfl, (HSM.out.setCell _ _).setCell _ _, HF.out⟩

end Go.Proofs.Ytogmkbhbmmgidaa
