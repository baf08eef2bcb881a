import Derived.Test.YtmcclbiaoeilkaaGreatP10
import Derived.Test.YtmcclbiaoeilkaaGreatP05
import Derived.Test.YtmcclbiaoeilkaaGreatP27
import Derived.Test.YtmcclbiaoeilkaaGreatP19
import Derived.Test.YtmcclbiaoeilkaaGreatP21
import Derived.Test.YtmcclbiaoeilkaaGreatP01
import Derived.ProofKit
import Derived.OpenShut
import Derived.Test.YtmcclbiaoeilkaaGreatRows
import Derived.WalkKit
import Derived.Carry
import Derived.Test.YtmcclbiaoeilkaaGreatP03
import Derived.Test.YtmcclbiaoeilkaaGreatP04
import Derived.Deep.Cut
import Derived.Test.YtmcclbiaoeilkaaGreatP06
import Derived.Shelf.SlMaps.Clone
/- Part 32 of a proof; the last part says what is proved. -/
section
namespace Go.Proofs.YtmcclbiaoeilkaaGreat
open Go.RowKit Go.Sl Go.ChangeMaps
theorem cutBays_none {b : BayM} {r : List BayM} {l : List Int} (h : b.state ≠ 1) : ShelfM.cutBays (b :: r) l = b :: ShelfM.cutBays r l := by
  show (if b.state = 1 then _ else _) = _
  rw [if_neg h]
theorem cutBays_one {b : BayM} {r : List BayM} {l : List Int} (h : b.state = 1) : ShelfM.cutBays (b :: r) l = ⟨b.disk.cut (l.take b.disk.pending.length), 1⟩ :: ShelfM.cutBays r (l.drop b.disk.pending.length) := by
  show (if b.state = 1 then _ else _) = _
  rw [if_pos h]
theorem infoInt : (Tryz.prog.info? TInt).map (·.size) = some 1 := by kernel_rfl
structure MoSt (w : World) (p : Nat) (S : ShelfM) (vb : Value) (F : HProp) (n : Nat) (picks : List Int) (pv i : Value) (wr : World) : Prop where
  st : ∃ (k : Nat) (dn : List BayM) (pk : List Int), k ≤ n ∧ i = .int .i64 k ∧ dn.length = k ∧ ShelfM.cutBays S.bays picks = dn ++ ShelfM.cutBays (S.bays.drop k) pk ∧ (∀ w', Sat w' F → IntsC w' pv pk) ∧ pk.length ≤ 9223372036854775807 ∧ Same w wr ∧ Sat wr (shelfV SH p { S with bays := dn ++ S.bays.drop k } vb * F)
set_option maxHeartbeats 2000000 in
theorem mount_any (p : Nat) (S : ShelfM) (F : HProp) (pv : Value) (picks : List Int) (w : World) (hS : Sat w (shelfAt SH p S * F)) (hpk : ∀ w', Sat w' F → IntsC w' pv picks) (hpl : picks.length ≤ 9223372036854775807) :
    Calls Tryz.prog 48 #[.pointer (some ⟨p, 0, none⟩), pv] w fun e w' => e = .returned (.tuple #[]) ∧ Hid (Same w w' ∧ Sat w' (shelfAt SH p (S.mount picks) * F)) := by
  have hwf := shelfAt_wf hS
  obtain ⟨vb, hV⟩ := shelfAt_V.1 hS
  have hn0 : 0 < S.bays.length := by rw [hwf.bays]; have := hwf.cfg.disks; omega
  have hn64 : S.bays.length ≤ 64 := by rw [hwf.bays]; have := hwf.cfg.disks; omega
  obtain ⟨g, cap, q, vi, G, rfl, hs, h1, h2, h3, h4, h5, h6⟩ := shelf_bayV hV (d := 0) hn0
  obtain ⟨⟨q6, q7, q8, q9, q10⟩, hp, hfp, hra⟩ := shelf_cells hs
  have HS := Lib.hid hS
  have HV := Lib.hid hV
  have HPK := Lib.hid hpk
  obtain ⟨n, hnn⟩ : ∃ n, S.bays.length = n := ⟨_, rfl⟩
  rw [hnn] at q6 hn0 hn64 HV
  have HNN := Lib.hid hnn
  clear hs hS hV hfp hra hwf q7 q8 q9 q10 h1 h2 h3 h4 h5 h6 hnn hpk
  go_enter Tryz.func48, Tryz.ntmps48
  go_wp2
  go_loopw [1, 5, 6, 12] (fun pv _ _ i wr => MoSt w p S (.slice (some ⟨g, 0, none⟩) n cap) F n picks pv i wr) (fun _ _ _ i _ => n - (intOf i).toNat)
  case atStart => exact ⟨0, [], picks, by omega, rfl, rfl, rfl, HPK.out, hpl, Same.refl w, HV.out⟩
  case round =>
    obtain ⟨k, dn, pk, hk, rfl, hdn, hcb, hpk, hpkl, hsm, hV'⟩ := hrel.st
    clear hrel HPK
    obtain ⟨ao, pc, rfl, _, _⟩ := hpk _ hV'.right
    have HH := Lib.hid (And.intro hcb (And.intro hsm hV'))
    have HPK := Lib.hid hpk
    have HDN := Lib.hid hdn
    by_cases hlt : k < n
    · have hltd : decide ((k : Int) < (n : Int)) = true := decide_eq_true (by omega)
      have hn2 := HNN.out
      have hblen : (dn ++ S.bays.drop k).length = n := by rw [List.length_append, List.length_drop]; omega
      obtain ⟨b, hb⟩ : ∃ b, S.bays[k]? = some b := ⟨_, List.getElem?_eq_getElem (by omega)⟩
      have hdrop : S.bays.drop k = b :: S.bays.drop (k + 1) := by
        rw [List.drop_eq_getElem_cons (by omega)]; congr 1
        rw [List.getElem?_eq_getElem (by omega)] at hb; exact Option.some.inj hb
      have hSb : (dn ++ S.bays.drop k)[k]? = some b := by rw [List.getElem?_append_right (by omega), hdn, Nat.sub_self, hdrop]; rfl
      have hbo := ShelfM.bay_of (S := { S with bays := dn ++ S.bays.drop k }) (d := (k : Int)) (by omega) (by show (k : Int) < ((dn ++ S.bays.drop k).length : Int); omega)
      rw [Int.toNat_natCast] at hbo
      have hbb := hSb.symm.trans hbo
      injection hbb with hbb
      obtain ⟨g', cap', q', vi', G', hvb, hs', ⟨hpg, hg⟩, b0, b1, hf, hcl, h7⟩ := shelf_bayV hV' (d := k) (by show k < (dn ++ S.bays.drop k).length; omega)
      rw [show ({ S with bays := dn ++ S.bays.drop k } : ShelfM).bays.length = n from hblen] at hvb hs' hcl
      simp only [Value.slice.injEq, Option.some.injEq, Addr.mk.injEq, and_true, true_and] at hvb
      obtain ⟨rfl, rfl⟩ := hvb
      have hbs : b.state = ({ S with bays := dn ++ S.bays.drop k } : ShelfM).state k := by rw [hbb]
      have hbd : b.disk = ({ S with bays := dn ++ S.bays.drop k } : ShelfM).disk k := by rw [hbb]
      rw [← hbs] at b1
      rw [← hbd] at hs'
      unfold ptrV at b0
      obtain ⟨st, hst⟩ : ∃ st, b.state = st := ⟨_, rfl⟩
      rw [hst] at b1
      have HB := Lib.hid (And.intro hst (And.intro hbs hdrop))
      have HBD := Lib.hid hbd
      have HSS := Lib.hid hs'
      have HCL := Lib.hid hcl
      have HWF' := Lib.hid (shelfAt_wf (shelfAt_V.2 ⟨_, hV'⟩))
      clear hs' hf hst hsm hV' hdn hcb hpk hcl h7 hbs hbd hbb hbo hSb hdrop hb hblen hn2 HV HS
      by_cases h1 : st = 1
      · subst h1
        have hA := (HSS.out.alloc (.cells #[.pointer (some ⟨q', 0, none⟩), .int .i64 1] TBay)).perm (show _ = diskAt TD TS q' b.disk * (pts wr.heap.size (.cells #[.pointer (some ⟨q', 0, none⟩), .int .i64 1] TBay (0, 0)) * (pts p (.cells (shelfC S.cfg (.slice (some ⟨g, 0, none⟩) n cap) vi' S.off S.fused S.left) TSh (0, 0)) * (F * G'))) from by ac_rfl)
        have hpd := pending_any q' b.disk _ _ hA
        have HA := Lib.hid (And.intro ((HH.out.2.1.alloc (.cells #[.pointer (some ⟨q', 0, none⟩), .int .i64 1] TBay))) hA)
        obtain ⟨pl, hple⟩ : ∃ pl, b.disk.pending.length = pl := ⟨_, rfl⟩
        rw [hple] at hpd
        have HPL := Lib.hid hple
        have hpl2 : pl ≤ 65536 := by
          have h1 : b.disk.pending.length ≤ b.disk.n := by unfold DiskM.pending; exact Nat.le_trans (List.length_filter_le _ _) (by simp)
          have h2 := (diskAt_wf hA).small
          omega
        clear hA hple
        go_upto_region 5 with (go_at_call 96; refine hpd.mono ?_; rintro e w2 ⟨pvv, rfl, hb2, hrow, _⟩; obtain ⟨ao2, pc2, rfl⟩ : ∃ ao2 pc2, pvv = .slice ao2 pl pc2 := by { rcases hrow.2 with ⟨rfl, h0⟩ | ⟨g2, cap2, cur2, rfl, _⟩; exact ⟨_, _, by rw [h0]⟩; exact ⟨_, _, rfl⟩ }; replace HA := Lib.hid (And.intro (HA.out.1.below hb2) (HA.out.2.below hb2)); clear hb2 hrow hpd)
        generalize wr.heap.size = B5 at HA ⊢
        obtain ⟨m, hm⟩ : ∃ m, min pl pk.length = m := ⟨_, rfl⟩
        have hmi : min (pl : Int) (pk.length : Int) = (m : Int) := by omega
        have hm1 : m ≤ pk.length := by omega
        have htk : pk.take b.disk.pending.length = pk.take m := by rw [HPL.out, ← hm]; rw [List.take_eq_take_iff]; omega
        have hdk : pk.drop b.disk.pending.length = pk.drop m := by
          rw [HPL.out, ← hm]
          rcases Nat.le_total pl pk.length with h | h
          · rw [Nat.min_eq_left h]
          · rw [Nat.min_eq_right h, List.drop_eq_nil_of_le h, List.drop_eq_nil_of_le (Nat.le_refl _)]
        rw [hmi]
        have HTD := Lib.hid (And.intro htk hdk)
        have hsF : ∀ (w' : World) (D : DiskM), Sat w' (diskAt TD TS q' D * (pts B5 (.cells #[.pointer (some ⟨q', 0, none⟩), .int .i64 1] TBay (0, 0)) * (pts p (.cells (shelfC S.cfg (.slice (some ⟨g, 0, none⟩) n cap) vi' S.off S.fused S.left) TSh (0, 0)) * (F * G')))) → Sat w' F := fun w' D h => h.right.right.right.left
        obtain ⟨v1, hv1, hvi1⟩ := slice_hi (P := Tryz.prog) (HPK.out _ (hsF _ _ HA.out.2)) hm1 Tryz.underlying38 infoInt
        have HV1 := Lib.hid hv1
        have hcut := cut_any q' b.disk _ v1 (pk.take m) w2.drew HA.out.2.drew (fun w' h => (hvi1 w' (HPK.out w' h.right.right.left)).at)
        have c5 : w2.drew.cell? ⟨B5, 0, none⟩ = some (.pointer (some ⟨q', 0, none⟩)) := cells_at HA.out.2.right.block 0
        clear hm hmi htk hdk hv1 hvi1
        refine reg_begin (fun w' => w'.cell? ⟨B5, 0, none⟩ = some (.pointer (some ⟨q', 0, none⟩))) (by kernel_rfl) ?_
        (apply reg_take 0 rfl rfl (by decide +kernel) rfl); (intro w' hw'; go_simp; rfl); exact c5; simp only [List.setIfInBounds_toArray, List.set_cons_succ, List.set_cons_zero]
        (apply reg_take 1 rfl rfl (by decide +kernel) rfl); (intro w' hw'; go_simp; rfl); exact c5; simp only [List.setIfInBounds_toArray, List.set_cons_succ, List.set_cons_zero]
        (apply reg_take 2 rfl rfl (by decide +kernel) rfl); (intro w' hw'; go_simp; rfl); exact c5; simp only [List.setIfInBounds_toArray, List.set_cons_succ, List.set_cons_zero]
        (apply reg_take 3 rfl rfl (by decide +kernel) rfl); (intro w' hw'; go_simp; rfl); exact c5; simp only [List.setIfInBounds_toArray, List.set_cons_succ, List.set_cons_zero]
        refine reg_take 4 (v := v1) rfl rfl (by decide +kernel) rfl (fun _ _ => exec_slice_run rfl rfl (HV1.out _)) c5 ?_; simp only [List.setIfInBounds_toArray, List.set_cons_succ, List.set_cons_zero]
        refine reg_call 5 rfl rfl (by decide +kernel) rfl (f := 97) (args := #[.pointer (some ⟨q', 0, none⟩), v1]) (R := fun v w' => v = .tuple #[] ∧ Hid (Same w w' ∧ Sat w' (diskAt TD TS q' (b.disk.cut (pk.take m)) * (pts B5 (.cells #[.pointer (some ⟨q', 0, none⟩), .int .i64 1] TBay (0, 0)) * (pts p (.cells (shelfC S.cfg (.slice (some ⟨g, 0, none⟩) n cap) vi' S.off S.fused S.left) TSh (0, 0)) * (F * G')))))) (by kernel_rfl) (hcut.mono fun e w' h => ⟨_, h.1, rfl, HA.out.1.drew.trans h.2.1, h.2.2⟩) ?_
        rintro _ w3 ⟨rfl, h3⟩
        refine ⟨cells_at h3.out.2.right.block 0, ?_⟩
        simp only [List.setIfInBounds_toArray, List.set_cons_succ, List.set_cons_zero]
        refine reg_done (by decide +kernel) ?_
        clear hcut c5
        go_wp2
        go_roundw
        case rel =>
          refine ⟨⟨k + 1, dn ++ [⟨b.disk.cut (pk.take m), 1⟩], pk.drop m, by omega, rfl, by rw [List.length_append, HDN.out]; rfl, ?_, fun w' h => (HPK.out w' h).drop hm1, by rw [List.length_drop]; omega, h3.out.1, ?_⟩⟩
          · rw [HH.out.1, HB.out.2.2, cutBays_one HB.out.1, HTD.out.1, HTD.out.2]; simp
          · have hset : (dn ++ S.bays.drop k).set k ⟨b.disk.cut (pk.take m), 1⟩ = (dn ++ [⟨b.disk.cut (pk.take m), 1⟩]) ++ S.bays.drop (k + 1) := by
              rw [HB.out.2.2, List.set_append_right _ _ (by rw [HDN.out]; exact Nat.le_refl _), HDN.out, Nat.sub_self]; simp
            have hst1 : ({ S with bays := dn ++ S.bays.drop k } : ShelfM).state k = 1 := by rw [← HB.out.2.1]; exact HB.out.1
            have hdb : ({ S with bays := dn ++ S.bays.drop k } : ShelfM).disk k = b.disk := HBD.out.symm
            have hwf2 := HWF'.out.setDisk (d := (k : Int)) (D := b.disk.cut (pk.take m)) (by rw [hst1]; decide) (by rw [hdb]; rfl)
            have h8 := HCL.out w3 (({ S with bays := dn ++ S.bays.drop k } : ShelfM).setDisk k (b.disk.cut (pk.take m))) (b.disk.cut (pk.take m)) F hwf2 rfl rfl rfl
              ((h3.out.2.perm (show _ = pts B5 (.cells #[.pointer (some ⟨q', 0, none⟩), .int .i64 1] TBay (0, 0)) * (pts p (.cells (shelfC S.cfg (.slice (some ⟨g, 0, none⟩) n cap) vi' S.off S.fused S.left) TSh (0, 0)) * (diskAt TD TS q' (b.disk.cut (pk.take m)) * (F * G'))) from by ac_rfl)).right)
            have e9 : (({ S with bays := dn ++ S.bays.drop k } : ShelfM).setDisk k (b.disk.cut (pk.take m))) = { S with bays := (dn ++ [⟨b.disk.cut (pk.take m), 1⟩]) ++ S.bays.drop (k + 1) } := by
              unfold ShelfM.setDisk ShelfM.setBay
              rw [hst1, Int.toNat_natCast, hset]
            rw [e9] at h8
            exact h8
        case measure => simp only [intOf]; omega
      · have h1b : (st == 1) = false := by simp [h1]
        go_wp2
        go_roundw
        case rel =>
          refine ⟨⟨k + 1, dn ++ [b], pk, by omega, rfl, by rw [List.length_append, HDN.out]; rfl, ?_, HPK.out, hpkl, HH.out.2.1.alloc _, ?_⟩⟩
          · rw [HH.out.1, HB.out.2.2, cutBays_none (by rw [HB.out.1]; exact h1)]; simp
          · have := HH.out.2.2.allocKeep (.cells #[.pointer (some ⟨q', 0, none⟩), .int .i64 st] TBay)
            rw [HB.out.2.2] at this
            rw [List.append_assoc]; exact this
        case measure => simp only [intOf]; omega
    · have hltd : decide ((k : Int) < (n : Int)) = false := decide_eq_false (by omega)
      obtain rfl : k = n := by omega
      have e1 : S.bays.drop k = [] := List.drop_eq_nil_of_le (by rw [HNN.out]; exact Nat.le_refl _)
      rw [e1] at hcb hV'
      have hcb2 : ShelfM.cutBays S.bays picks = dn := by rw [hcb]; simp [ShelfM.cutBays]
      rw [List.append_nil, ← hcb2] at hV'
      have hfin : Sat ((wr.setCell ⟨p, 8, none⟩ (.bool false)).setCell ⟨p, 9, none⟩ (.bool false)) (shelfAt SH p (S.mount picks) * F) := by
        have hw := shelfAt_wf (shelfAt_V.2 ⟨_, hV'⟩)
        refine Sat.shelfSet (shelfAt_V.2 ⟨_, hV'⟩) ⟨hw.cfg, hw.bays, hw.st, hw.images, fun h => by cases h⟩ rfl rfl rfl ?_
        rintro _ _ vb vi G rfl rfl h
        exact (h.setCell _).setCell _
      have HF := Lib.hid hfin
      have HSM := Lib.hid hsm
      obtain ⟨_, _, _, _, hs9⟩ := shelfV_iff.1 hV'
      obtain ⟨⟨q6', q7', q8', q9', q10'⟩, hp', hfp', hra'⟩ := shelf_cells hs9
      clear hsm hV' hdn hcb hpk e1 hcb2 hfin hs9 hra'
      go_wp2
      first | go_end0 | go_ret
      exact ⟨rfl, (HSM.out.setCell _ _).setCell _ _, HF.out⟩
end Go.Proofs.YtmcclbiaoeilkaaGreat
end
section
namespace Go.Proofs.YtmcclbiaoeilkaaGreat
open Go.RowKit Go.Sl Go.ChangeMaps
structure OpN where
  kind : Int
  at_ : PlaceM
  dst : PlaceM
  n : Int
  fill : UInt8
  size : Int
  picks : List Int
def OpN.len (o : OpN) : Nat := (max 0 (min o.size 100)).toNat
def opN (o : OpN) (v : Value) : Array Value := #[.int .i64 o.kind, .int .i64 o.at_.disk, .int .i64 o.at_.area, .int .i64 o.at_.index, .int .i64 o.dst.disk, .int .i64 o.dst.area, .int .i64 o.dst.index, .int .i64 o.n, .int .u8 (o.fill.toNat : Int), .int .i64 o.size, v]
abbrev TB : TypeId := 5
def sec17 (c : CfgM) : Int := wrap64 (wrap64 (c.log + wrap64 (2 * c.image)) + c.rows)
set_option maxHeartbeats 400000 in
theorem sec17_any (c : CfgM) (w : World) : Calls Tryz.prog 32 #[.agg (cfgA c)] w fun e w' => e = .returned (.int .i64 (sec17 c)) ∧ Hid (Below w.heap.size w w') := by
  go_enter Tryz.func32, Tryz.ntmps32
  go_wp2
  go_ret
  exact ⟨rfl, (Below.refl _ _).alloc (Nat.le_refl _) _⟩
def smallB (c : CfgM) : Bool := decide (c.disks ≤ 6) && decide (c.log ≤ 24) && decide (c.image ≤ 24) && decide (c.rows ≤ 24) && decide (sec17 c ≤ 24)
set_option maxHeartbeats 1000000 in
theorem small_any (c : CfgM) (w : World) : Calls Tryz.prog 27 #[.agg (cfgA c)] w fun e w' => e = .returned (.bool (smallB c)) ∧ Hid (Below w.heap.size w w') := by
  have he : smallB c = (decide (c.disks ≤ 6) && decide (c.log ≤ 24) && decide (c.image ≤ 24) && decide (c.rows ≤ 24) && decide (sec17 c ≤ 24)) := rfl
  have hs := fun w => sec17_any c w
  obtain ⟨x, hx⟩ : ∃ x, sec17 c = x := ⟨_, rfl⟩
  rw [hx] at he hs
  have HS := Lib.hid hs
  clear hs hx
  cases h1 : decide (c.disks ≤ 6)
  · rw [he, h1]; clear he
    go_enter Tryz.func27, Tryz.ntmps27
    go_wp2
    go_ret
    exact ⟨rfl, (Below.refl _ _).alloc (Nat.le_refl _) _⟩
  cases h2 : decide (c.log ≤ 24)
  · rw [he, h1, h2]; clear he
    go_enter Tryz.func27, Tryz.ntmps27
    go_wp2
    go_ret
    exact ⟨rfl, (Below.refl _ _).alloc (Nat.le_refl _) _⟩
  cases h3 : decide (c.image ≤ 24)
  · rw [he, h1, h2, h3]; clear he
    go_enter Tryz.func27, Tryz.ntmps27
    go_wp2
    go_ret
    exact ⟨rfl, (Below.refl _ _).alloc (Nat.le_refl _) _⟩
  cases h4 : decide (c.rows ≤ 24)
  · rw [he, h1, h2, h3, h4]; clear he
    go_enter Tryz.func27, Tryz.ntmps27
    go_wp2
    go_ret
    exact ⟨rfl, (Below.refl _ _).alloc (Nat.le_refl _) _⟩
  rw [he, h1, h2, h3, h4]; clear he
  go_enter Tryz.func27, Tryz.ntmps27
  go_wp2_with (go_at_call 32; refine (HS.out _).mono ?_; rintro e w1 ⟨rfl, hb⟩)
  go_ret
  exact ⟨rfl, Below.trans ((Below.refl _ _).alloc (Nat.le_refl _) _) (hb.out.mono (by simp))⟩
end Go.Proofs.YtmcclbiaoeilkaaGreat
end
section
namespace Go.Proofs.YtmcclbiaoeilkaaGreat
open Go.RowKit Go.Sl Go.ChangeMaps
def yC : CfgM := ⟨2, 1, 3, 0, 1, 1⟩
def yP : PlaceM := ⟨0, 4, 2⟩
def z64 : List UInt8 := List.replicate 64 0
def yS0 : ShelfM := ShelfM.new yC
theorem y0 : yC.ok = true := by decide +kernel
theorem y1 : yS0.state 1 = 1 := by decide +kernel
theorem y2 : yS0.state 2 = 0 := by decide +kernel
theorem y3 : (yS0.write yP z64).2 = 0 := by decide +kernel
section
variable {p : Nat} {S S' : ShelfM} {F : HProp} {w : World} {k : Int}
end
theorem small_bound {c : CfgM} (h1 : smallB c = true) (h2 : c.ok = true) : c.disks ≤ 6 ∧ c.sectors ≤ 24 := by
  unfold smallB at h1
  simp only [Bool.and_eq_true, decide_eq_true_eq] at h1
  obtain ⟨⟨⟨⟨a1, a2⟩, a3⟩, a4⟩, a5⟩ := h1
  unfold CfgM.ok inB at h2
  simp only [Bool.and_eq_true, decide_eq_true_eq] at h2
  obtain ⟨⟨⟨⟨⟨⟨⟨_, _⟩, _, _⟩, c1, c2⟩, d1, d2⟩, e1, e2⟩, f1, f2⟩, _⟩ := h2
  refine ⟨a1, ?_⟩
  unfold sec17 wrap64 at a5
  unfold CfgM.sectors
  omega
end Go.Proofs.YtmcclbiaoeilkaaGreat
end
section
namespace Go.Sl
open Go Go.RowKit
def Rd (P : Program) (w : World) (t : TypeId) (cs : List Value) : Prop :=
  ∃ (H : Type) (enc : TypeId × Value → H) (fuel : Nat) (d : DataW H) (ps : List MemPlace), DataW.trod enc P w 0 (fun _ => true) true fuel t cs = some (d, ps)
section
variable {P : Program} {w : World} {t : TypeId} {cs : List Value}
theorem mapM_at {α β : Type} {f : α → Option β} : ∀ {l : List α} {r : List β}, l.mapM f = some r → ∀ x ∈ l, ∃ y, f x = some y
  | [], _, _, x, hx => by simp at hx
  | a :: l, r, h, x, hx => by
    rw [List.mapM_cons] at h
    cases ha : f a with
    | none => simp [ha] at h
    | some y =>
      cases hl : l.mapM f with
      | none => simp [ha, hl] at h
      | some ys =>
        rcases List.mem_cons.1 hx with rfl | hx
        · exact ⟨y, ha⟩
        · exact mapM_at hl x hx
theorem Rd.int {k : IntKind} (hu : P.underlying t = some (.int k)) (h : Rd P w t cs) : ∃ n, cs = [.int k n] ∧ (Lit.int k n).wf = true := by
  obtain ⟨H, enc, fuel, d, ps, h⟩ := h
  cases fuel with
  | zero => simp [DataW.trod] at h
  | succ m =>
    unfold DataW.trod at h
    rw [hu] at h
    split at h <;> simp_all
theorem Rd.string (hu : P.underlying t = some .string) (h : Rd P w t cs) : ∃ s, cs = [.string s] ∧ s.size ≤ maxLen := by
  obtain ⟨H, enc, fuel, d, ps, h⟩ := h
  cases fuel with
  | zero => simp [DataW.trod] at h
  | succ m =>
    unfold DataW.trod at h
    rw [hu] at h
    split at h <;> simp_all
theorem Rd.bool (hu : P.underlying t = some .bool) (h : Rd P w t cs) : ∃ b, cs = [.bool b] := by
  obtain ⟨H, enc, fuel, d, ps, h⟩ := h
  cases fuel with
  | zero => simp [DataW.trod] at h
  | succ m =>
    unfold DataW.trod at h
    rw [hu] at h
    split at h <;> simp_all
theorem Rd.struct {fs : Array Field} (hu : P.underlying t = some (.struct fs)) (h : Rd P w t cs) : cs.length = P.cellsOf t ∧ ∀ f ∈ fs.toList, Rd P w f.type ((cs.drop f.offset).take (P.cellsOf f.type)) := by
  obtain ⟨H, enc, fuel, d, ps, h⟩ := h
  cases fuel with
  | zero => simp [DataW.trod] at h
  | succ m =>
    unfold DataW.trod at h
    rw [hu] at h
    have h' : cs.length = P.cellsOf t ∧ ∃ xs, fs.toList.mapM (fun f => DataW.trod enc P w 0 (fun _ => true) true m f.type ((cs.drop f.offset).take (P.cellsOf f.type))) = some xs := by
      split at h <;> simp_all
      obtain ⟨_, xs, hx, _⟩ := h
      exact ⟨xs, hx⟩
    obtain ⟨h1, xs, hx⟩ := h'
    refine ⟨h1, fun f hf => ?_⟩
    obtain ⟨y, hy⟩ := mapM_at hx f hf
    exact ⟨H, enc, m, y.1, y.2, hy⟩
theorem Rd.slice {e : TypeId} {sz : Nat} (hu : P.underlying t = some (.slice e)) (hsz : P.cellsOf e = sz) (h0 : 0 < sz) (h : Rd P w t cs) :
    ∃ ao len cap, cs = [.slice ao len cap] ∧ len ≤ maxLen ∧ (0 < len → ∃ b off, ao = some ⟨b, off, none⟩ ∧ ∀ i, i < len → ∃ es : List Value, es.length = sz ∧ Rd P w e es ∧ ∀ j u, es[j]? = some u → w.cell? ⟨b, off + i * sz + j, none⟩ = some u) := by
  obtain ⟨H, enc, fuel, d, ps, h⟩ := h
  cases fuel with
  | zero => simp [DataW.trod] at h
  | succ m =>
    rw [DataW.trod_step] at h
    have key : cs = [.slice none 0 0] ∨ ∃ a len cap, cs = [.slice (some a) len cap] ∧ len ≤ cap ∧ cap ≤ maxLen ∧ ∃ elems, (List.range len).mapM (fun i => (w.cells? 0 (a.add (i * P.cellsOf e)) (P.cellsOf e)).bind (DataW.trod enc P w 0 (fun _ => true) true m e)) = some elems := by
      unfold DataW.trodStep at h
      rw [hu] at h
      split at h
      all_goals first
        | (exfalso; simp at *; done)
        | skip
      all_goals first
        | (rename_i heq; cases heq; exact .inl rfl)
        | (rename_i e' a len cap heq
           cases heq
           simp only at h
           split at h
           · rename_i hc
             obtain ⟨elems, he, _⟩ := Option.bind_eq_some_iff.1 h
             exact .inr ⟨a, len, cap, rfl, hc.2.1, hc.2.2, elems, he⟩
           · cases h)
        | (rename_i heq; cases heq)
        | (cases h)
    rcases key with rfl | ⟨a, len, cap, rfl, hlc, hcm, elems, he⟩
    · exact ⟨none, 0, 0, rfl, Nat.zero_le _, fun h => absurd h (Nat.lt_irrefl 0)⟩
    rw [hsz] at he
    refine ⟨some a, len, cap, rfl, Nat.le_trans hlc hcm, fun hl => ?_⟩
    have hat : ∀ i, i < len → ∃ es, w.cells? 0 (a.add (i * sz)) sz = some es ∧ ∃ y, DataW.trod enc P w 0 (fun _ => true) true m e es = some y := by
      intro i hi
      obtain ⟨y, hy⟩ := mapM_at he i (by simp [hi])
      rw [Option.bind_eq_some_iff] at hy
      obtain ⟨es, h3, h4⟩ := hy
      exact ⟨es, h3, y, h4⟩
    have hcell : ∀ (x : Addr) (es : List Value), w.cells? 0 x sz = some es → es.length = sz ∧ ∀ j u, es[j]? = some u → w.cell? (x.add j) = some u := by
      intro x es hx
      unfold World.cells? at hx
      rw [if_pos (Nat.zero_le _)] at hx
      have hlen : es.length = sz := by simpa using mapM_some_length hx
      refine ⟨hlen, fun j u hu => ?_⟩
      have hj : j < sz := by rw [← hlen]; exact (List.getElem?_eq_some_iff.1 hu).1
      have := mapM_some_get hx j j (by simp [hj])
      rw [this]; exact hu
    obtain ⟨b, off, spot⟩ := a
    obtain ⟨es0, hc0, _⟩ := hat 0 hl
    obtain ⟨hl0, hcc⟩ := hcell _ _ hc0
    have hspot : spot = none := by
      have := hcc 0 _ (List.getElem?_eq_getElem (by omega))
      simpa [Addr.add] using World.cell?_spot this
    subst hspot
    refine ⟨b, off, rfl, fun i hi => ?_⟩
    obtain ⟨es, hc, y, hy⟩ := hat i hi
    obtain ⟨hl', hcc'⟩ := hcell _ _ hc
    refine ⟨es, hl', ⟨H, enc, m, y.1, y.2, hy⟩, fun j u hj => ?_⟩
    have := hcc' j u hj
    rw [Addr.add_mid, Addr.add_mid] at this
    exact this
end
end Go.Sl
namespace Go.Proofs.YtmcclbiaoeilkaaGreat
open Go.ChangeShapes Go.WideShapes Go.ChangeAt Go.RowKit
theorem law_own : ownKnob Tryz.prog.godebug = none := by kernel_rfl
theorem law_laid : laidOutB Tryz.prog = true := by kernel_rfl
theorem law_args {H : Type} {enc : TypeId × Value → H} {W W' : World} (hb : Below W.heap.size W W') :
    ∀ (ts : List TypeId) (vs : List Value) (ds : List (DataW H)) (ps : List MemPlace), (∀ t ∈ ts, Tryz.prog.readableRec t = true ∧ t < Tryz.prog.types.size) → (∀ x ∈ ps, x.block < W.heap.size) →
      DataW.TrodAll enc Tryz.prog W 0 (fun _ => true) true ts vs ds ps → DataW.TrodAll enc Tryz.prog W' 0 (fun b => decide (b < W.heap.size)) true ts vs ds ps
  | [], [], [], ps, _, _, h => h
  | t :: ts, v :: vs, d :: ds, ps, ht, hlt, h => by
    obtain ⟨p, q, h1, h2, rfl⟩ := h
    exact ⟨p, q, Below.trod law_laid (ht t (by simp)).1 (ht t (by simp)).2 h1 hb (fun x hx => hlt x (by simp [hx])), law_args hb ts vs ds q (fun t' h' => ht t' (by simp [h'])) (fun x hx => hlt x (by simp [hx])) h2, rfl⟩
  | [], [], _ :: _, _, _, _, h => by cases h
  | [], _ :: _, _, _, _, _, h => by cases h
  | _ :: _, [], _, _, _, _, h => by cases h
  | _ :: _, _ :: _, [], _, _, _, h => by cases h
theorem law_post {H : Type} {enc : TypeId × Value → H} {f : Func} {s : ChangeSpec} {W W' : World} {args : Array Value} {ds gs : List (DataW H)} {before : List MemPlace}
    (hres : f.resultTypes = #[4]) (hvars : s.vars = []) (hp : ∀ t ∈ f.params.toList, Tryz.prog.readableRec t = true ∧ t < Tryz.prog.types.size)
    (hfn : (s.fn H (ds ++ gs)) = { results := [.lit (.bool true)], args := ds }) (hW : DataW.Whole enc Tryz.prog f.params.toList s.vars false W args.toList ds gs before)
    (hb : Below W.heap.size W W') : s.post enc Tryz.prog f false true false false W args (.bool true) W' := by
  obtain ⟨p, q, hA, hV, rfl, hfz, hnd⟩ := id hW
  rw [hvars] at hV
  have hlt : ∀ x ∈ p, x.block < W.heap.size := fun x hx => by simpa using hW.lt x (by simp [hx])
  refine ⟨ds, gs, p ++ q, [], p, [], hW, ?_, ?_, ?_, hb.frame _, fun h => by cases h⟩
  · rw [hfn, hres]; exact trodAll_cons_mk (shut_bool Tryz.underlying4 _) trodAll_mk0
  · rw [hfn]; exact law_args hb _ _ _ _ hp hlt hA
  · rw [hfn, hvars]; rfl
end Go.Proofs.YtmcclbiaoeilkaaGreat
end
section
namespace Go.Proofs.YtmcclbiaoeilkaaGreat
open Go.RowKit Go.Sl Go.ChangeMaps
theorem trod_rd {H : Type} {enc : TypeId × Value → H} {w : World} {t : TypeId} {v : Value} {d : DataW H} {ps : List MemPlace} (h : DataW.Trod enc Tryz.prog w 0 (fun _ => true) true t v d ps) : Rd Tryz.prog w t v.cells.toList := by
  obtain ⟨fuel, h⟩ := h
  exact ⟨H, enc, fuel, d, ps, h⟩
set_option maxRecDepth 20000 in
theorem rd_cfg {w : World} {cs : List Value} (h : Rd Tryz.prog w TCfg cs) : ∃ c : CfgM, cs = cfgL c := by
  obtain ⟨hl, hf⟩ := Rd.struct Tryz.underlying23 h
  rw [show Tryz.prog.cellsOf TCfg = 6 by kernel_rfl] at hl
  have k1 : Tryz.prog.cellsOf 3 = 1 := by kernel_rfl
  match cs, hl with
  | [a0, a1, a2, a3, a4, a5], _ =>
    simp only [List.mem_cons, List.not_mem_nil, or_false, forall_eq_or_imp, forall_eq, k1, List.drop_zero, List.drop_succ_cons, List.take_succ_cons, List.take_zero] at hf
    obtain ⟨h0, h1, h2, h3, h4, h5⟩ := hf
    obtain ⟨n0, e0, _⟩ := Rd.int Tryz.underlying3 h0
    obtain ⟨n1, e1, _⟩ := Rd.int Tryz.underlying3 h1
    obtain ⟨n2, e2, _⟩ := Rd.int Tryz.underlying3 h2
    obtain ⟨n3, e3, _⟩ := Rd.int Tryz.underlying3 h3
    obtain ⟨n4, e4, _⟩ := Rd.int Tryz.underlying3 h4
    obtain ⟨n5, e5, _⟩ := Rd.int Tryz.underlying3 h5
    simp at e0 e1 e2 e3 e4 e5
    subst e0 e1 e2 e3 e4 e5
    exact ⟨⟨n0, n1, n2, n3, n4, n5⟩, rfl⟩
structure OpWF (o : OpN) : Prop where
  n : o.n < 9223372036854775808
  picks : o.picks.length ≤ 9223372036854775807
def ScrN (w : World) (v : Value) (l : List (OpN × Value)) : Prop := ∃ ao cap, v = .slice ao l.length cap ∧ (l ≠ [] → ∃ b off, ao = some ⟨b, off, none⟩ ∧ ∀ j o, l[j]? = some o → OpWF o.1 ∧ w.rangeAt b (off + j * 11) (opN o.1 o.2).toList ∧ IntsC w o.2 o.1.picks)
theorem IntsC.old {w w' : World} {v : Value} {l : List Int} {P : HProp} (h : IntsC w v l) (hs : Sat w' (P * Sl.old w)) : IntsC w' v l := by
  have hk := hs.of_old
  have hcell : ∀ (a : Addr) u, w.cell? a = some u → w'.cell? a = some u := fun a u hu => (World.cell?_of_block (hk a.block (World.block_lt_of_cell? _ _ hu))).trans hu
  obtain ⟨ai, ci, rfl, hlc, h2⟩ := h
  refine ⟨ai, ci, rfl, hlc, fun hn => ?_⟩
  obtain ⟨b', off', rfl, h3⟩ := h2 hn
  exact ⟨b', off', rfl, fun i x hx => hcell _ _ (h3 i x hx)⟩
theorem ScrN.old {w w' : World} {v : Value} {l : List (OpN × Value)} {P : HProp} (h : ScrN w v l) (hs : Sat w' (P * Sl.old w)) : ScrN w' v l := by
  have hk := hs.of_old
  have hcell : ∀ (a : Addr) u, w.cell? a = some u → w'.cell? a = some u := fun a u hu => (World.cell?_of_block (hk a.block (World.block_lt_of_cell? _ _ hu))).trans hu
  obtain ⟨ao, cap, rfl, hc⟩ := h
  refine ⟨ao, cap, rfl, fun hne => ?_⟩
  obtain ⟨b, off, rfl, hp⟩ := hc hne
  refine ⟨b, off, rfl, fun j o hj => ?_⟩
  obtain ⟨hwo, h1, h2⟩ := hp j o hj
  exact ⟨hwo, fun i u hu => hcell _ _ (h1 i u hu), IntsC.old h2 hs⟩
section
variable {ops : Array Oper} {rest : List Oper} {op : Oper} {a : Act} {w : World} {Q : Exit → Act → World → Prop}
end
end Go.Proofs.YtmcclbiaoeilkaaGreat
end
