import Derived.Test.YteikbikopgabjaaGreatDoorV47
import Derived.Test.YteikbikopgabjaaGreatDoorV46
import Derived.Test.YteikbikopgabjaaGreatDoorV19
import Derived.Test.YteikbikopgabjaaGreatDoorV48
/- Part 49 of a proof; the last part says what is proved. -/
section
namespace Go.Proofs.YteikbikopgabjaaGreatDoor
open Go.RowKit Go.Sha Go.Sl Go.GF Go.Vol Go.Loss
def anyD (Lw : List UInt8) (x : UInt8) : Bool := Lw.any fun f => sameD (unitL f) (unitL x)
theorem anyD_succ {Lw : List UInt8} {x f : UInt8} {k : Nat} (h : Lw[k]? = some f) : anyD (Lw.take (k + 1)) x = (anyD (Lw.take k) x || sameD (unitL f) (unitL x)) := by
  unfold anyD
  rw [List.take_add_one, h, List.any_append]
  simp
structure RwtS (w : World) (l : List ItM) (v i : Value) (wr : World) : Prop where
  st : ∃ k : Nat, k ≤ l.length ∧ i = .int .i64 (k : Int) ∧ Same w wr ∧ Sat wr (ownD v (waitL ((chunksM l).take k)) * old w)
structure RwiS (w : World) (g5 : Nat) (D : Array Value) (v : Value) (Lw : List UInt8) (x : ItM) (hd i : Value) (wr : World) : Prop where
  st : ∃ k : Nat, k ≤ Lw.length ∧ i = .int .i64 (k : Int) ∧ hd = .bool (!x.2 || anyD (Lw.take k) x.1) ∧ Same w wr ∧ Sat wr (pts g5 (.cells D TD (0, 0)) * (ownD v Lw * old w))
set_option maxRecDepth 20000 in
set_option maxHeartbeats 4000000 in
theorem rwaiting_any (vi : Value) (l : List ItM) (w : World) (hI : ItL w vi l) (hl : l.length ≤ 40) (hK : TabK w) :
    Calls Tryz.prog 19 #[vi] w fun e w' => ∃ v, e = .returned v ∧ Same w w' ∧ Sat w' (ownD v (waitL (chunksM l)) * old w) := by
  obtain ⟨i0, hi, hz0, hz1, hz2⟩ := info_parts info_dg
  obtain ⟨ti41, hti41, htis41⟩ := Option.map_eq_some_iff.1 info_it
  have HI := Lib.hid (fun W (h : Below w.heap.size w W) => RowsO.below hI h)
  have HK := Lib.hid (fun W (h : Below w.heap.size w W) => hK.below h)
  obtain ⟨io, ic, rfl, -⟩ := id hI
  obtain ⟨n, hn⟩ : ∃ n, n = l.length := ⟨_, rfl⟩
  rw [← hn] at hl ⊢
  have HN := Lib.hid hn
  have H0 := Lib.hid (show RwtS w l (.slice none 0 0) (.int .i64 0) w from ⟨0, Nat.zero_le _, rfl, Same.refl _, ownAt_nil.2 (Sat.old w)⟩)
  clear hI hK hn
  go_enter Tryz.func19, Tryz.ntmps19
  go_upto_region 3 with (fail)
  go_loopw [3, 4] (fun v i wr => RwtS w l v i wr) (fun _ i _ => n - (intOf i).toNat)
  case atStart => exact H0.out
  case round =>
    clear H0
    obtain ⟨k, hk, rfl, hsm, hst⟩ := hrel.st
    clear hrel
    rw [← HN.out] at hk
    have hk40 : (k : Int) ≤ 40 := by omega
    have HLW := Lib.hid (show (waitL ((chunksM l).take k)).length ≤ 40 by
      have := waitL_len ((chunksM l).take k)
      rw [List.length_take] at this
      omega)
    have HS := Lib.hid (And.intro hsm hst)
    have HB := Lib.hid (hsm.below_of hst)
    clear hsm hst
    by_cases hlt : k < n
    · have hltd : decide ((k : Int) < (n : Int)) = true := decide_eq_true (by omega)
      have hwk : IntKind.i64.wrap ((k : Int) + 1) = (k : Int) + 1 := IntWalk.i64_in _ (by omega)
      obtain ⟨⟨x, lost⟩, hx⟩ : ∃ x, l[k]? = some x := ⟨_, List.getElem?_eq_getElem (by rw [← HN.out]; exact hlt)⟩
      have HWS := Lib.hid (waitL_succ (chunksM_at hx))
      obtain ⟨Lw, hLw⟩ : ∃ Lw, Lw = waitL ((chunksM l).take k) := ⟨_, rfl⟩
      rw [← hLw] at HS HWS HLW
      clear hLw
      obtain ⟨ib, ioff, rfl, hib, i1, i2⟩ := it_cells (HI.out wr HB.out) hx
      have HC := Lib.hid (And.intro hib (And.intro i1 i2))
      dsimp only at i1 i2
      have HU := Lib.hid (unit_any x lost wr)
      have HA := Lib.hid (fun W (h : Below wr.heap.size wr W) => digest_any (unitL x) (unitL_len x) W (HK.out W (HB.out.trans (h.mono HB.out.size))))
      have hld := load_item i1 i2
      unfold itemA at HU hld
      obtain ⟨us, hus⟩ : ∃ us, us = strL (unitL x) := ⟨_, rfl⟩
      rw [← hus] at HU HA
      obtain ⟨D, hD⟩ : ∃ D, D = digM (unitL x) := ⟨_, rfl⟩
      rw [← hD] at HA
      have HD := Lib.hid hD
      have HDZ := Lib.hid (show D.size = 16 ∧ ∀ v ∈ D.toList, v.oneCell' = true by rw [hD]; exact ⟨digM_size _, digM_one _⟩)
      have HX := Lib.hid hx
      clear hus hD hib hx
      go_upto_region 6 with (first
        | (go_at_call 29; refine HU.out.mono ?_; rintro e w4 ⟨rfl, h4⟩; have HB4 := Lib.hid h4; clear h4 hld i1 i2)
        | (go_at_call 27; refine (HA.out w4 HB4.out).mono ?_; rintro e w5 ⟨rfl, h5⟩; have HB5 := Lib.hid (HB4.out.trans (h5.mono HB4.out.size)); clear h5; have HW5 := Lib.hid (And.intro ((HS.out.1.below HB5.out).alloc (.cells zD TD)) ((HS.out.2.below HB5.out).alloc (.cells zD TD))))
        | ((with_reducible (refine wpList_alloc_zero ?_ TD ?_ _ (zeroD _) ?_)); rfl; rfl; generalize w5.alloc (.cells zD TD) = w6 at HW5 ⊢; generalize w5.heap.size = g5 at HW5 ⊢)
        | (refine wpList_store_blk (T := TD) (old := zD) (new := D) rfl rfl rfl rfl HW5.out.2 (infoD HDZ.out.1) (by rw [HDZ.out.1]; rfl) HDZ.out.2 ?_; intro w7 h7))
      have HW7 := Lib.hid (And.intro (HW5.out.1.trans h7.out.1) h7.out.2)
      clear h7 HW5 HB4 HB5 HU HA
      have hb7 := HW7.out.1.below_of (HW7.out.2.perm (show _ = (pts g5 (.cells D TD (0, 0)) * ownD u3 Lw) * old w by ac_rfl))
      obtain ⟨ib2, ioff2, e, hib, i1, i2⟩ := it_cells (HI.out w7 hb7) HX.out
      cases e
      dsimp only at i2
      clear hib i1 hb7
      have H1 := Lib.hid (show RwiS w g5 D u3 Lw (x, lost) (.bool (!lost)) (.int .i64 0) w7 from ⟨0, Nat.zero_le _, rfl, by show _ = Value.bool (!lost || anyD [] x); unfold anyD; simp, HW7.out.1, HW7.out.2⟩)
      clear HW7 HS HC
      go_upto_region 8 with (fail)
      go_loopw [6, 7] (fun hd i wr => RwiS w g5 D u3 Lw (x, lost) hd i wr) (fun _ i _ => Lw.length - (intOf i).toNat)
      case atStart => exact H1.out
      case round =>
        clear H1 i2
        obtain ⟨j, hj, rfl, rfl, hsm, hst⟩ := hrel.st
        clear hrel
        dsimp only
        have hj40 : (j : Int) ≤ 40 := by have := HLW.out; omega
        have HS := Lib.hid (And.intro hsm hst)
        clear hsm hst
        have h2 := HS.out.2.perm (show _ = ownD u3 Lw * (pts g5 (.cells D TD (0, 0)) * old w) by ac_rfl)
        unfold ownD at h2
        obtain ⟨va, vc, rfl⟩ := ownAt_slice h2
        by_cases hjl : j < Lw.length
        · have hjd : decide ((j : Int) < (Lw.length : Int)) = true := decide_eq_true (by omega)
          have hwj : IntKind.i64.wrap ((j : Int) + 1) = (j : Int) + 1 := IntWalk.i64_in _ (by omega)
          obtain ⟨f, hf⟩ : ∃ f, Lw[j]? = some f := ⟨_, List.getElem?_eq_getElem hjl⟩
          have HAS := Lib.hid (anyD_succ (x := x) hf)
          obtain ⟨gv, cv, e, hc⟩ := ownAt_cells h2 (by omega)
          cases e
          have hr1 : wr.rangeAt gv (0 + j * 16) (digM (unitL f)).toList := fun q v hv => by
            have := hc _ _ (flat_at dgE_len Lw j f hf q v hv)
            rwa [Nat.zero_add]
          have hr2 : wr.rangeAt g5 0 (digM (unitL x)).toList := fun q v hv => by
            rw [Nat.zero_add, cells_at HS.out.2.block, HD.out]; rwa [Array.getElem?_toList] at hv
          have HR := Lib.hid (And.intro hr1 hr2)
          clear hc h2 hf
          obtain ⟨a0, ha0⟩ : ∃ a0, a0 = anyD (Lw.take j) x := ⟨_, rfl⟩
          rw [← ha0] at HAS ⊢
          clear ha0
          cases hb : (!lost || a0) with
          | true =>
            have HE := Lib.hid (show RwiS w g5 D (.slice (some ⟨gv, 0, none⟩) Lw.length vc) Lw (x, lost) (.bool true) (.int .i64 ((j : Int) + 1)) wr.drew from ⟨j + 1, hjl, by push_cast; rfl, by
              rw [HAS.out, ← Bool.or_assoc, hb]; rfl, HS.out.1.drew, HS.out.2⟩)
            go_upto_region 10 with (fail)
            have hS0 : wr.drew = wr.drew := rfl
            refine reg_begin (fun w' => w' = wr.drew) (by kernel_rfl) ?_
            (apply reg_take 0 rfl rfl (by decide +kernel) rfl); (rintro w' rfl; go_simp; rfl); exact hS0; simp only [List.setIfInBounds_toArray, List.set_cons_succ, List.set_cons_zero]
            (apply reg_take 1 rfl rfl (by decide +kernel) rfl); (rintro w' rfl; go_simp; rfl); exact hS0; simp only [List.setIfInBounds_toArray, List.set_cons_succ, List.set_cons_zero]
            (apply reg_skip 2 rfl rfl (by decide +kernel) rfl); exact hS0; simp only [List.setIfInBounds_toArray, List.set_cons_succ, List.set_cons_zero]
            (apply reg_skip 3 rfl rfl (by decide +kernel) rfl); exact hS0; simp only [List.setIfInBounds_toArray, List.set_cons_succ, List.set_cons_zero]
            (apply reg_skip 4 rfl rfl (by decide +kernel) rfl); exact hS0; simp only [List.setIfInBounds_toArray, List.set_cons_succ, List.set_cons_zero]
            (apply reg_skip 5 rfl rfl (by decide +kernel) rfl); exact hS0; simp only [List.setIfInBounds_toArray, List.set_cons_succ, List.set_cons_zero]
            (apply reg_skip 6 rfl rfl (by decide +kernel) rfl); exact hS0; simp only [List.setIfInBounds_toArray, List.set_cons_succ, List.set_cons_zero]
            (apply reg_skip 7 rfl rfl (by decide +kernel) rfl); exact hS0; simp only [List.setIfInBounds_toArray, List.set_cons_succ, List.set_cons_zero]
            (apply reg_take 8 rfl rfl (by decide +kernel) rfl); (rintro w' rfl; go_simp; rfl); exact hS0; simp only [List.setIfInBounds_toArray, List.set_cons_succ, List.set_cons_zero]
            (apply reg_take 9 rfl rfl (by decide +kernel) rfl); (rintro w' rfl; go_simp; rfl); exact hS0; simp only [List.setIfInBounds_toArray, List.set_cons_succ, List.set_cons_zero]
            refine reg_done (by decide +kernel) ?_
            go_wp2
            go_roundw
            case rel => exact HE.out
            case measure => simp only [intOf]; omega
          | false =>
            have HE := Lib.hid (show RwiS w g5 D (.slice (some ⟨gv, 0, none⟩) Lw.length vc) Lw (x, lost) (.bool (sameD (unitL f) (unitL x))) (.int .i64 ((j : Int) + 1)) wr.drew from ⟨j + 1, hjl, by push_cast; rfl, by
              rw [HAS.out, ← Bool.or_assoc, hb, Bool.false_or], HS.out.1.drew, HS.out.2⟩)
            obtain ⟨td, htd, htds⟩ := Option.map_eq_some_iff.1 (show (Tryz.prog.info? TD).map (·.size) = some 16 from by kernel_rfl)
            go_upto_region 10 with (fail)
            have hS0 : wr.drew = wr.drew := rfl
            refine reg_begin (fun w' => w' = wr.drew) (by kernel_rfl) ?_
            (apply reg_take 0 rfl rfl (by decide +kernel) rfl); (rintro w' rfl; go_simp; rfl); exact hS0; simp only [List.setIfInBounds_toArray, List.set_cons_succ, List.set_cons_zero]
            (apply reg_take 1 rfl rfl (by decide +kernel) rfl); (rintro w' rfl; go_simp; rfl); exact hS0; simp only [List.setIfInBounds_toArray, List.set_cons_succ, List.set_cons_zero]
            (apply reg_take 2 rfl rfl (by decide +kernel) rfl); (rintro w' rfl; go_simp; rfl); exact hS0; simp only [List.setIfInBounds_toArray, List.set_cons_succ, List.set_cons_zero]
            (apply reg_take 3 rfl rfl (by decide +kernel) rfl); (rintro w' rfl; go_simp; rfl); exact hS0; simp only [List.setIfInBounds_toArray, List.set_cons_succ, List.set_cons_zero]
            refine reg_take 4 (v := .pointer (some ⟨gv, 0 + j * 16, none⟩)) rfl rfl (by decide +kernel) rfl (fun _ _ => exec_index_slice (n := Lw.length) rfl rfl rfl Tryz.underlying40 htd htds hjl) hS0 ?_; simp only [List.setIfInBounds_toArray, List.set_cons_succ, List.set_cons_zero]
            refine reg_take 5 (v := .agg (digM (unitL f))) rfl rfl (by decide +kernel) rfl (fun w' h => exec_load_mid rfl rfl (by rw [h]; exact load_dig HR.out.1)) hS0 ?_; simp only [List.setIfInBounds_toArray, List.set_cons_succ, List.set_cons_zero]
            refine reg_take 6 (v := .agg (digM (unitL x))) rfl rfl (by decide +kernel) rfl (fun w' h => exec_load_mid rfl rfl (by rw [h]; exact load_dig HR.out.2)) hS0 ?_; simp only [List.setIfInBounds_toArray, List.set_cons_succ, List.set_cons_zero]
            refine reg_take 7 (v := .bool (sameD (unitL f) (unitL x))) rfl rfl (by decide +kernel) rfl (fun w' _ => exec_eqD rfl rfl rfl) hS0 ?_; simp only [List.setIfInBounds_toArray, List.set_cons_succ, List.set_cons_zero]
            (apply reg_take 8 rfl rfl (by decide +kernel) rfl); (rintro w' rfl; go_simp; rfl); exact hS0; simp only [List.setIfInBounds_toArray, List.set_cons_succ, List.set_cons_zero]
            (apply reg_take 9 rfl rfl (by decide +kernel) rfl); (rintro w' rfl; go_simp; rfl); exact hS0; simp only [List.setIfInBounds_toArray, List.set_cons_succ, List.set_cons_zero]
            refine reg_done (by decide +kernel) ?_
            go_wp2
            go_roundw
            case rel => exact HE.out
            case measure => simp only [intOf]; omega
        · have hje : j = Lw.length := by omega
          have hjd : decide ((j : Int) < (Lw.length : Int)) = false := decide_eq_false (by omega)
          rw [hje, List.take_length]
          clear h2
          cases hb : (!lost || anyD Lw x) with
          | true =>
            have HE := Lib.hid (show RwtS w l (.slice va Lw.length vc) (.int .i64 ((k : Int) + 1)) wr from ⟨k + 1, by rw [← HN.out]; omega, by push_cast; rfl, HS.out.1, by
              rw [HWS.out, show addW Lw (chI k (x, lost)) = Lw by
                unfold addW
                rw [if_neg]
                rintro ⟨h1, h2⟩
                have h3 : anyD Lw x = false := h2
                rw [show lost = true from h1, h3] at hb
                cases hb]
              exact HS.out.2.right⟩)
            go_wp2
            go_roundw
            case rel => exact HE.out
            case measure => simp only [intOf]; omega
          | false =>
            have HAD := Lib.hid (show addW Lw (chI k (x, lost)) = Lw ++ [x] by
              rw [Bool.or_eq_false_iff] at hb
              unfold addW
              rw [if_pos ⟨by show lost = true; simpa using hb.1, hb.2⟩]; rfl)
            go_upto_region 12 with (fail)
            have hld : (loadVar TD ⟨g5, 0, none⟩).run Tryz.prog wr = .ok (.agg D) wr := by
              have hr2 : wr.rangeAt g5 0 (digM (unitL x)).toList := fun q v hv => by
                rw [Nat.zero_add, cells_at HS.out.2.block, HD.out]; rwa [Array.getElem?_toList] at hv
              have := load_dig hr2
              rwa [← HD.out] at this
            refine wp_region_lit ?_
            (apply wpList_runG rfl); (go_simp; first | rfl | exact ⟨rfl, rfl⟩); simp only [Act.put, List.setIfInBounds_toArray, List.set_cons_succ, List.set_cons_zero]
            refine wpList_runG (v := .agg D) rfl (exec_load_mid rfl rfl hld) ?_; simp only [Act.put, List.setIfInBounds_toArray, List.set_cons_succ, List.set_cons_zero]
            refine wpList_runG rfl (exec_bs1 rfl rfl Tryz.underlying40 hi hz0 hz1 (by omega) (by omega) HDZ.out.1) ?_
            simp only [Act.put, List.setIfInBounds_toArray, List.set_cons_succ, List.set_cons_zero]
            have HW9 := Lib.hid (And.intro (HS.out.1.alloc (.cells D TD)) (HS.out.2.alloc (.cells D TD)))
            clear hld HS
            generalize wr.alloc (.cells D TD) = w9 at HW9 ⊢
            generalize wr.heap.size = g39 at HW9 ⊢
            have hq9 := HW9.out.2.perm (show _ = ownD (.slice va Lw.length vc) Lw * (pts g39 (.cells D TD (0, 0)) * (pts g5 (.cells D TD (0, 0)) * old w)) by ac_rfl)
            have hnews : ∀ j u, D.toList[j]? = some u → w9.cell? ((⟨g39, 0, none⟩ : Addr).add j) = some u := fun j u hu => by
              rw [Addr.add_mid, Nat.zero_add, cells_at HW9.out.2.block]; rwa [Array.getElem?_toList] at hu
            refine wpList_append_ownAt rfl _ _ 40 TD rfl i0 _ Tryz.underlying40 hi hz0 hz1 hz2 rfl hq9 D.toList rfl rfl (by rw [Array.length_toList, HDZ.out.1]) hnews HDZ.out.2 (by have := HLW.out; unfold maxLen; omega) (by have := HLW.out; omega) ?_
            intro v' w10 h3
            simp only [Act.put, List.setIfInBounds_toArray, List.set_cons_succ, List.set_cons_zero]
            have HE := Lib.hid (show RwtS w l v' (.int .i64 ((k : Int) + 1)) w10 from ⟨k + 1, by rw [← HN.out]; omega, by push_cast; rfl, HW9.out.1.trans h3.out.1, by
              rw [HWS.out, HAD.out]
              have h := h3.out.2
              rw [HD.out] at h
              unfold ownD
              rw [List.length_append, List.length_singleton, List.flatMap_append, List.flatMap_cons, List.flatMap_nil, List.append_nil]
              exact (h.perm (show _ = (pts g39 (.cells (digM (unitL x)) TD (0, 0)) * pts g5 (.cells (digM (unitL x)) TD (0, 0))) * (ownAt TD 16 v' (Lw.length + 1) (Lw.flatMap dgE ++ dgE x) * old w) by unfold dgE; ac_rfl)).right⟩)
            clear h3 hnews hq9 HW9
            (apply wpList_runG rfl); (go_simp; first | rfl | exact ⟨rfl, rfl⟩); simp only [Act.put, List.setIfInBounds_toArray, List.set_cons_succ, List.set_cons_zero]
            refine wpList_nil ?_
            go_wp2
            go_roundw
            case rel => exact HE.out
            case measure => simp only [intOf]; omega
    · have hke : k = n := by omega
      subst hke
      have hltd : decide ((k : Int) < (k : Int)) = false := decide_eq_false (by omega)
      obtain ⟨va3, vc3, rfl⟩ := ownAt_slice HS.out.2
      go_wp2
      go_ret
      refine ⟨_, rfl, HS.out.1, ?_⟩
      have h := HS.out.2
      rwa [show (chunksM l).take k = chunksM l by rw [HN.out, ← chunksM_len, List.take_length]] at h ⊢
end Go.Proofs.YteikbikopgabjaaGreatDoor
end
section
namespace Go.Proofs.YteikbikopgabjaaGreatDoor
open Go.RowKit Go.Sha Go.Sl Go.GF Go.Vol Go.Loss
theorem ints_own {w : World} {v : Value} {l : List Int} {F : HProp} (h : Sat w (ownAt TI 1 v l.length (intsV l) * F)) : IntsAt w v l := by
  by_cases hl : l = []
  · obtain ⟨ao, cap, rfl⟩ := ownAt_slice h
    exact ⟨ao, cap, rfl, fun hn => absurd hl hn⟩
  · obtain ⟨g, cap, rfl, hc⟩ := ownAt_cells h (List.length_pos_iff.2 hl)
    exact ⟨_, cap, rfl, fun _ => ⟨g, 0, rfl, fun j x hx => by rw [Nat.zero_add, Nat.mul_one]; exact hc j _ (intsV_at hx)⟩⟩
end Go.Proofs.YteikbikopgabjaaGreatDoor
end
section
namespace Go.Proofs.YteikbikopgabjaaGreatDoor
open Go.RowKit Go.Sha Go.Sl Go.GF Go.Vol Go.Loss
theorem built_read {A B : List ElC} {l : List ItM} {w w' : World} {q p : Nat} (h : Built A B l w q p w') (hn : l.length ≤ 40) : ∃ b cap rb, SpaceAt TNode TSp w' q (spaceC (A.map Prod.fst) (B.map Prod.fst)) ∧ TabR w' p b cap rb (chunksM l) ∧ Below w.heap.size w w' := by
  obtain ⟨b, cap, at_, rb, kv, wb, hb, hsp, hsm, hst, -⟩ := h.at_
  have h2 := hsm.below_of hst
  exact ⟨b, cap, rb, hsp.below h2, tab_read hst (by rw [chunksM_len]; omega), hb.trans (h2.mono hb.size)⟩
theorem ten_of {most : Int} : ∀ {z : Int} {l : List ContM}, validC most z l → ∀ x ∈ l, 0 ≤ x.tenant ∧ x.tenant < 16
  | _, [], _, x, hx => by simp at hx
  | _, y :: r, h, x, hx => by
    rcases List.mem_cons.1 hx with rfl | hx
    · exact h.1.2.2.1
    · exact ten_of h.2 x hx
theorem id_of {most : Int} : ∀ {z : Int} {l : List ContM}, -1 ≤ z → most ≤ 1000 → validC most z l → ∀ x ∈ l, -1 ≤ x.id ∧ x.id ≤ 1000
  | _, [], _, _, _, x, hx => by simp at hx
  | _, y :: r, hz, hm, h, x, hx => by
    have h1 := h.1.1
    have h2 := h.1.2.1
    rcases List.mem_cons.1 hx with rfl | hx
    · omega
    · exact id_of (by omega) hm h.2 x hx
theorem gonesC_ok {f : Bool} {id : Int} {ms : List (Int × Int)} {l : List ItM} (h1 : -1 ≤ id ∧ id ≤ 1000) (h2 : validM (-1) ms) : ∀ g ∈ gonesC f id ms l, okG g := by
  intro g hg
  unfold gonesC at hg
  obtain ⟨m, hm, he⟩ := List.mem_filterMap.1 hg
  obtain ⟨x, -, rfl⟩ := Option.map_eq_some_iff.1 he
  have := (validM_all h2).1 m hm
  unfold okG
  dsimp only
  omega
theorem report_ok {A B : List ContM} {l : List ItM} (h : validS A B) : ∀ g ∈ reportL A B l, okG g := by
  intro g hg
  unfold reportL partL at hg
  rcases List.mem_append.1 hg with hg | hg
  · obtain ⟨c, hc, hg⟩ := List.mem_flatMap.1 hg
    exact gonesC_ok (id_of (by omega) (by omega) h.1 c hc) (okC_of h.1 c hc) g hg
  · obtain ⟨c, hc, hg⟩ := List.mem_flatMap.1 hg
    exact gonesC_ok (id_of (by omega) (by omega) h.2.1 c hc) (okC_of h.2.1 c hc) g hg
theorem ten_ok {A B : List ElC} (h : validS (A.map Prod.fst) (B.map Prod.fst)) : TenOk A ∧ TenOk B :=
  ⟨fun x hx => ten_of h.1 x.1 (List.mem_map_of_mem hx), fun x hx => ten_of h.2.1 x.1 (List.mem_map_of_mem hx)⟩
def InBox (g : Nat) (va vb vi : Value) (W : World) : Prop := W.heap[g]? = some (.cells #[va, vb, vi] TIn41 (0, 0))
theorem InBox.lt {g : Nat} {va vb vi : Value} {W : World} (h : InBox g va vb vi W) : g < W.heap.size := (Array.getElem?_eq_some_iff.1 h).1
theorem InBox.below {g : Nat} {va vb vi : Value} {W W' : World} (h : InBox g va vb vi W) (hb : Below W.heap.size W W') : InBox g va vb vi W' := (hb.block g h.lt).trans h
theorem InBox.c0 {g : Nat} {va vb vi : Value} {W : World} (h : InBox g va vb vi W) : W.cell? ⟨g, 0, none⟩ = some va := by rw [cells_at h]; rfl
theorem InBox.c1 {g : Nat} {va vb vi : Value} {W : World} (h : InBox g va vb vi W) : W.cell? ⟨g, 1, none⟩ = some vb := by rw [cells_at h]; rfl
theorem InBox.c2 {g : Nat} {va vb vi : Value} {W : World} (h : InBox g va vb vi W) : W.cell? ⟨g, 2, none⟩ = some vi := by rw [cells_at h]; rfl
theorem inBox_alloc (w : World) (va vb vi : Value) : InBox w.heap.size va vb vi (w.alloc (.cells #[va, vb, vi] TIn41)) := ((Sat.old w).alloc (.cells #[va, vb, vi] TIn41)).block
theorem own_rows {w : World} {F : HProp} {T : TypeId} {k n : Nat} {v : Value} {L : List Value} (h : Sat w (ownAt T k v n L * F)) : RowsO w v n L := rowsO_own h
theorem IntsAt.below {w wr : World} {v : Value} {l : List Int} (h : IntsAt w v l) (hb : Below w.heap.size w wr) : IntsAt wr v l := IntsAt.row h hb
theorem own_ints {w : World} {v : Value} {l : List Int} {n : Nat} {F : HProp} (hn : l.length = n) (h : Sat w (ownAt TI 1 v n (intsV l) * F)) : IntsAt w v l := by
  subst hn
  exact ints_own h
end Go.Proofs.YteikbikopgabjaaGreatDoor
end
