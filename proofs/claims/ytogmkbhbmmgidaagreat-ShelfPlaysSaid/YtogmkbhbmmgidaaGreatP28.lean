import Derived.Test.YtogmkbhbmmgidaaGreatP27
import Derived.Test.YtogmkbhbmmgidaaGreatP13
/- Part 28 of a proof; the last part says what is proved. -/
namespace Go.Proofs.YtogmkbhbmmgidaaGreat
open Go.RowKit Go.Sl Go.ChangeMaps
structure RmoSt (w : World) (p : Nat) (S : ShelfM) (F : HProp) (n : Nat) (picks : List Int) (pv i : Value) (wr : World) : Prop where
  st : ∃ (k : Nat) (dn : List BayM) (pk : List Int), k ≤ n ∧ i = .int .i64 (k : Int) ∧ dn.length = k ∧ ShelfM.cutBays S.bays picks = dn ++ ShelfM.cutBays (S.bays.drop k) pk ∧ Hid (∀ w', Sat w' F → IntsC w' pv pk) ∧ pk.length ≤ 9223372036854775807 ∧ Hid (Same w wr ∧ Sat wr (rshAt RS p { S with bays := dn ++ S.bays.drop k } * F))
theorem rsh_mounted {p : Nat} {S : ShelfM} {F : HProp} {w : World} (h : Sat w (rshAt RS p S * F)) : w.frozen? ⟨p, 9, none⟩ = false ∧ w.frozen? ⟨p, 10, none⟩ = false ∧ (∃ b l, w.cell? ⟨p, 9, none⟩ = some (.bool b) ∧ w.cell? ⟨p, 10, none⟩ = some (.int .i64 l)) ∧ Sat ((w.setCell ⟨p, 9, none⟩ (.bool true)).setCell ⟨p, 10, none⟩ (.int .i64 (-1))) (rshAt RS p { S with off := false, fused := false } * F) := by
  obtain ⟨vb, vs, vi, ps, qs, ⟨hwf, h1, h2⟩, hs⟩ := rshAt_iff.1 h
  obtain ⟨⟨_, _, _, q9, q10⟩, _, _⟩ := rs_cells hs
  refine ⟨thawed_at hs.block 9, thawed_at hs.block 10, ⟨_, _, q9, q10⟩, rshAt_iff.2 ⟨vb, vs, vi, ps, qs, ⟨⟨hwf.cfg, hwf.bays, hwf.st, hwf.images, fun h => by cases h⟩, h1, h2⟩, ?_⟩⟩
  have h9 := (hs.setCell (i := 9) (.bool true)).setCell (i := 10) (.int .i64 (-1))
  unfold rsC at h9
  simp only [List.setIfInBounds_toArray, List.set_cons_succ, List.set_cons_zero] at h9
  exact h9
set_option maxRecDepth 20000 in
set_option maxHeartbeats 4000000 in
theorem rmount_any (p : Nat) (S : ShelfM) (F : HProp) (pv : Value) (picks : List Int) (w : World) (hS : Sat w (rshAt RS p S * F)) (hpk : ∀ w', Sat w' F → IntsC w' pv picks) (hpl : picks.length ≤ 9223372036854775807) :
    Calls Tryz.prog 42 #[.pointer (some ⟨p, 0, none⟩), pv] w fun e w' => e = .returned (.tuple #[]) ∧ Hid (Same w w' ∧ Sat w' (rshAt RS p (S.mount picks) * F)) := by
  have hwf := rshAt_wf hS
  have hn64 : S.bays.length ≤ 64 := by rw [hwf.bays]; have := hwf.cfg.disks; omega
  obtain ⟨n, hnn⟩ : ∃ n, S.bays.length = n := ⟨_, rfl⟩
  rw [hnn] at hn64
  have HNN := Lib.hid hnn
  have H0 := Lib.hid (show RmoSt w p S F n picks pv (.int .i64 0) w from ⟨0, [], picks, Nat.zero_le _, rfl, rfl, rfl, hpk, hpl, Same.refl w, hS⟩)
  clear hS hpk hpl hwf hnn
  go_enter Tryz.func42, Tryz.ntmps42
  go_upto_region 1 with (fail)
  go_loopw [1, 4] (fun pv i wr => RmoSt w p S F n picks pv i wr) (fun _ i _ => n - (intOf i).toNat)
  case atStart => exact H0.out
  case round =>
    clear H0
    obtain ⟨k, dn, pk, hk, rfl, hdn, hcb, HPK, hpkl, H1⟩ := hrel.st
    clear hrel
    obtain ⟨ao, pc, rfl, -, -⟩ := HPK.out _ H1.out.2.right
    have hk64 : (k : Int) ≤ 64 := by omega
    by_cases hlt : k < n
    · have hltd : decide ((k : Int) < (n : Int)) = true := decide_eq_true (by omega)
      have hkn : (k : Int) < (n : Int) := by omega
      have hk0 : (0 : Int) ≤ (k : Int) := by omega
      have hwk : IntKind.i64.wrap ((k : Int) + 1) = (k : Int) + 1 := IntWalk.i64_in _ (by omega)
      have hn2 := HNN.out
      have hblen : (dn ++ S.bays.drop k).length = n := by rw [List.length_append, List.length_drop]; omega
      obtain ⟨b, hb⟩ : ∃ b, S.bays[k]? = some b := ⟨_, List.getElem?_eq_getElem (by omega)⟩
      have hdrop : S.bays.drop k = b :: S.bays.drop (k + 1) := by
        rw [List.drop_eq_getElem_cons (by omega)]; congr 1
        rw [List.getElem?_eq_getElem (by omega)] at hb; exact Option.some.inj hb
      have hSb : (dn ++ S.bays.drop k)[k]? = some b := by rw [List.getElem?_append_right (by omega), hdn, Nat.sub_self, hdrop]; rfl
      obtain ⟨T, hT⟩ : ∃ T : ShelfM, T = { S with bays := dn ++ S.bays.drop k } := ⟨_, rfl⟩
      rw [← hT] at H1
      have hTb : T.bays = dn ++ S.bays.drop k := by rw [hT]
      have hTl : T.bays.length = n := by rw [hTb]; exact hblen
      have hbo := ShelfM.bay_of (S := T) (d := (k : Int)) (by omega) (by omega)
      rw [Int.toNat_natCast, hTb] at hbo
      have hbb := Option.some.inj (hSb.symm.trans hbo)
      have hbs : b.state = T.state k := by rw [hbb]
      have hbd : b.disk = T.disk k := by rw [hbb]
      obtain ⟨vb, vs, vi, ps, qs, q, R, ho, hs⟩ := rsh_open H1.out.2 (k := k) (by omega)
      obtain ⟨gs, caps, rfl, c7, cs, -⟩ := rsh_states ho hs
      obtain ⟨g, capb, rfl, c6, cq, -⟩ := rsh_bays ho hs
      rw [hTl] at c6 c7
      have HT := Lib.hid (And.intro hT (And.intro hTl (And.intro hbs (And.intro hbd hdrop))))
      have HH := Lib.hid (And.intro hcb hdn)
      by_cases h1 : T.state (k : Int) = 1
      · rw [h1] at cs
        have hwfD := H1.out.2
        rw [rshO_eq, ← hbd] at hs
        have HPD := Lib.hid (rpending_any q b.disk _ wr hs)
        obtain ⟨pl, hple⟩ : ∃ pl, b.disk.pending.length = pl := ⟨_, rfl⟩
        rw [hple] at HPD
        have hwfd : b.disk.WF := by obtain ⟨_, _, ⟨h, _⟩, _⟩ := refD_iff.1 hs; exact h
        have hpl2 : pl ≤ 65536 := by rw [← hple]; exact Nat.le_trans (penK_le b.disk b.disk.n) hwfd.small
        have HPL := Lib.hid hple
        have HO := Lib.hid (And.intro ho h1)
        clear hs ho hple hwfD hwfd h1 hbb hbo hbs hbd hSb hdrop hb hblen hn2 hTb hTl hT hcb hdn hlt hk
        go_upto_region 5 with (go_at_call 87; refine HPD.out.mono ?_; rintro e w2 ⟨pvv, rfl, h2⟩; obtain ⟨ao2, pc2, rfl⟩ := ownAt_slice h2.out.2)
        obtain ⟨m, hm⟩ : ∃ m, min pl pk.length = m := ⟨_, rfl⟩
        have hmi : min (pl : Int) (pk.length : Int) = (m : Int) := by omega
        have hm1 : m ≤ pk.length := by omega
        have htk : pk.take b.disk.pending.length = pk.take m := by rw [HPL.out, ← hm]; rw [List.take_eq_take_iff]; omega
        have hdk : pk.drop b.disk.pending.length = pk.drop m := by
          rw [HPL.out, ← hm]
          rcases Nat.le_total pl pk.length with h | h
          · rw [Nat.min_eq_left h]
          · rw [Nat.min_eq_right h, List.drop_eq_nil_of_le h, List.drop_eq_nil_of_le (Nat.le_refl _)]
        rw [hmi]
        have HTD := Lib.hid (And.intro htk hdk)
        have hsF : ∀ (w' : World) (D : DiskM), Sat w' (refD RT q D * rshX p T (.slice (some ⟨g, 0, none⟩) T.bays.length capb) (.slice (some ⟨gs, 0, none⟩) T.bays.length caps) vi ps qs R F) → Sat w' F := fun w' D h => by
          have h1 := h.right
          unfold rshX at h1
          exact h1.right.right.right.right.right.right
        have HA := Lib.hid (And.intro (H1.out.1.trans h2.out.1) h2.out.2.right)
        obtain ⟨v1, hv1, hvi1⟩ := slice_hi (P := Tryz.prog) (HPK.out _ (hsF _ _ HA.out.2)) hm1 Tryz.underlying43 infoInt
        have HV1 := Lib.hid hv1
        have HCUT := Lib.hid (rcut_any q b.disk _ v1 (pk.take m) w2.drew HA.out.2.drew (fun w' h => (hvi1 w' (HPK.out w' (by unfold rshX at h; exact h.right.right.right.right.right.right))).at))
        have hx := HA.out.2
        rw [HT.out.2.2.2.1, ← rshO_eq] at hx
        obtain ⟨g', capb', eg, d6, dq, -⟩ := rsh_bays HO.out.1 hx
        simp only [Value.slice.injEq, Option.some.injEq, Addr.mk.injEq, and_true, true_and] at eg
        obtain ⟨rfl, rfl⟩ := eg
        rw [HT.out.2.1] at d6
        have hS0 : w2.drew.cell? ⟨p, 6, none⟩ = some (.slice (some ⟨g, 0, none⟩) n capb) ∧ w2.drew.cell? ⟨g, k, none⟩ = some (.pointer (some ⟨q, 0, none⟩)) := ⟨d6, dq⟩
        clear hm hmi htk hdk hv1 hvi1 hsF hx d6 dq c6 c7 cs cq h2 HPD
        refine reg_begin (fun w' => w'.cell? ⟨p, 6, none⟩ = some (.slice (some ⟨g, 0, none⟩) n capb) ∧ w'.cell? ⟨g, k, none⟩ = some (.pointer (some ⟨q, 0, none⟩))) (by kernel_rfl) ?_
        (apply reg_take 0 rfl rfl (by decide +kernel) rfl); (rintro w' ⟨h1, h2⟩; go_simp; rfl); exact hS0; simp only [List.setIfInBounds_toArray, List.set_cons_succ, List.set_cons_zero]
        (apply reg_take 1 rfl rfl (by decide +kernel) rfl); (rintro w' ⟨h1, h2⟩; go_simp; rfl); exact hS0; simp only [List.setIfInBounds_toArray, List.set_cons_succ, List.set_cons_zero]
        (apply reg_take 2 rfl rfl (by decide +kernel) rfl); (rintro w' ⟨h1, h2⟩; go_simp; rfl); exact hS0; simp only [List.setIfInBounds_toArray, List.set_cons_succ, List.set_cons_zero]
        (apply reg_take 3 rfl rfl (by decide +kernel) rfl); (rintro w' ⟨h1, h2⟩; go_simp; rfl); exact hS0; simp only [List.setIfInBounds_toArray, List.set_cons_succ, List.set_cons_zero]
        (apply reg_take 4 rfl rfl (by decide +kernel) rfl); (rintro w' ⟨h1, h2⟩; go_simp; rfl); exact hS0; simp only [List.setIfInBounds_toArray, List.set_cons_succ, List.set_cons_zero]
        (apply reg_take 5 rfl rfl (by decide +kernel) rfl); (rintro w' ⟨h1, h2⟩; go_simp; rfl); exact hS0; simp only [List.setIfInBounds_toArray, List.set_cons_succ, List.set_cons_zero]
        (apply reg_take 6 rfl rfl (by decide +kernel) rfl); (rintro w' ⟨h1, h2⟩; go_simp; rfl); exact hS0; simp only [List.setIfInBounds_toArray, List.set_cons_succ, List.set_cons_zero]
        (apply reg_take 7 rfl rfl (by decide +kernel) rfl); (rintro w' ⟨h1, h2⟩; go_simp; rfl); exact hS0; simp only [List.setIfInBounds_toArray, List.set_cons_succ, List.set_cons_zero]
        (apply reg_take 8 rfl rfl (by decide +kernel) rfl); (rintro w' ⟨h1, h2⟩; go_simp; rfl); exact hS0; simp only [List.setIfInBounds_toArray, List.set_cons_succ, List.set_cons_zero]
        refine reg_take 9 (v := v1) rfl rfl (by decide +kernel) rfl (fun _ _ => exec_slice_run rfl rfl (HV1.out _)) hS0 ?_; simp only [List.setIfInBounds_toArray, List.set_cons_succ, List.set_cons_zero]
        refine reg_call 10 rfl rfl (by decide +kernel) rfl (f := 88) (args := #[.pointer (some ⟨q, 0, none⟩), v1]) (R := fun v w' => v = .tuple #[] ∧ Hid (Same w w' ∧ Sat w' (refD RT q (b.disk.cut (pk.take m)) * rshX p T (.slice (some ⟨g, 0, none⟩) T.bays.length capb) (.slice (some ⟨gs, 0, none⟩) T.bays.length caps) vi ps qs R F))) (by kernel_rfl) (HCUT.out.mono fun e w' h => ⟨_, h.1, rfl, HA.out.1.drew.trans h.2.out.1, h.2.out.2⟩) ?_
        rintro _ w3 ⟨rfl, H3⟩
        have hx := H3.out.2
        rw [← rshO_eq] at hx
        obtain ⟨g', capb', eg, d6, dq, -⟩ := rsh_bays HO.out.1 hx
        simp only [Value.slice.injEq, Option.some.injEq, Addr.mk.injEq, and_true, true_and] at eg
        obtain ⟨rfl, rfl⟩ := eg
        rw [HT.out.2.1] at d6
        refine ⟨⟨d6, dq⟩, ?_⟩
        have HX := Lib.hid (And.intro H3.out.1 hx)
        clear hx d6 dq hS0 HCUT HA H3
        simp only [List.setIfInBounds_toArray, List.set_cons_succ, List.set_cons_zero]
        refine reg_done (by decide +kernel) ?_
        go_wp2
        go_roundw
        case rel =>
          refine ⟨⟨k + 1, dn ++ [⟨b.disk.cut (pk.take m), 1⟩], pk.drop m, by omega, rfl, by rw [List.length_append, HH.out.2]; rfl, ?_, Lib.hid fun w' h => (HPK.out w' h).drop hm1, by rw [List.length_drop]; omega, HX.out.1, ?_⟩⟩
          · rw [HH.out.1, HT.out.2.2.2.2, cutBays_one (by rw [HT.out.2.2.1]; exact HO.out.2), HTD.out.1, HTD.out.2]; simp
          · have hset : (dn ++ S.bays.drop k).set k ⟨b.disk.cut (pk.take m), 1⟩ = (dn ++ [⟨b.disk.cut (pk.take m), 1⟩]) ++ S.bays.drop (k + 1) := by
              rw [HT.out.2.2.2.2, List.set_append_right _ _ (by rw [HH.out.2]; exact Nat.le_refl _), HH.out.2, Nat.sub_self]; simp
            have hwf2 := (rshAt_wf H1.out.2).setDisk (d := (k : Int)) (D := b.disk.cut (pk.take m)) (by rw [HO.out.2]; decide) (by rw [← HT.out.2.2.2.1]; rfl)
            have h8 := rsh_disk HO.out.1 hwf2 HX.out.2
            have e9 : T.setDisk k (b.disk.cut (pk.take m)) = { S with bays := (dn ++ [⟨b.disk.cut (pk.take m), 1⟩]) ++ S.bays.drop (k + 1) } := by
              unfold ShelfM.setDisk ShelfM.setBay
              rw [HO.out.2, Int.toNat_natCast, HT.out.1]
              dsimp only
              rw [hset]
            rw [e9] at h8
            exact h8
        case measure => simp only [intOf]; omega
      · have e1 : (T.state (k : Int) != 1) = true := by simp [h1]
        have H1N := Lib.hid (show b.state ≠ 1 by rw [hbs]; exact h1)
        generalize T.state (k : Int) = st at cs e1
        clear hs ho h1 hbb hbo hbs hbd hSb hdrop hb hblen hn2 hTb hTl hT hcb hdn hlt hk
        go_wp2
        go_roundw
        case rel =>
          refine ⟨⟨k + 1, dn ++ [b], pk, by omega, rfl, by rw [List.length_append, HH.out.2]; rfl, ?_, HPK, hpkl, H1.out.1, ?_⟩⟩
          · rw [HH.out.1, HT.out.2.2.2.2, cutBays_none H1N.out]; simp
          · have := H1.out.2
            rw [HT.out.1, HT.out.2.2.2.2] at this
            rw [List.append_assoc]; exact this
        case measure => simp only [intOf]; omega
    · have hltd : decide ((k : Int) < (n : Int)) = false := decide_eq_false (by omega)
      obtain rfl : k = n := by omega
      have e1 : S.bays.drop k = [] := List.drop_eq_nil_of_le (by rw [HNN.out]; exact Nat.le_refl _)
      rw [e1] at hcb H1
      have hcb2 : ShelfM.cutBays S.bays picks = dn := by rw [hcb]; simp [ShelfM.cutBays]
      rw [List.append_nil, ← hcb2] at H1
      obtain ⟨vb, vs, vi, ps, qs, -, hs9⟩ := rshAt_iff.1 H1.out.2
      obtain ⟨⟨q6, _, _, _, _⟩, _, _⟩ := rs_cells hs9
      obtain ⟨ao6, cap6, rfl⟩ := ownAt_slice hs9.right
      have hl6 : ({ S with bays := ShelfM.cutBays S.bays picks } : ShelfM).bays.length = k := by show (ShelfM.cutBays S.bays picks).length = k; rw [hcb2]; exact hdn
      rw [hl6] at q6
      obtain ⟨f9, f10, ⟨b9, l10, c9, c10⟩, hfin⟩ := rsh_mounted H1.out.2
      have HF := Lib.hid (And.intro ((H1.out.1.setCell ⟨p, 9, none⟩ (.bool true)).setCell ⟨p, 10, none⟩ (.int .i64 (-1))) hfin)
      clear hs9 hcb hcb2 e1 hfin hdn hl6 H1
      go_wp2
      first | go_end0 | go_ret
      exact ⟨rfl, HF.out⟩
end Go.Proofs.YtogmkbhbmmgidaaGreat
