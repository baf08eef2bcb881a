/- WalDamage: for all sizes, records, sectors and bits the law answers true. -/
import Derived.Test.YtbegomjbakidmaaHc
import Derived.Test.YtbegomjbakidmaaSx
import Derived.Test.YtbegomjbakidmaaSr
namespace Go.Proofs.Ytbegomjbakidmaa
open Go.RowKit Go.Sl Go.ChangeMaps

structure DmSt (w : World) (E : HProp) (rs : List (List UInt8)) (index : Int) (v12 : Value) (wr : World) : Prop where
  st : ∃ k : Nat, k ≤ rs.length ∧ (tailK rs k).next ≤ index ∧ v12 = .int .i64 (k : Int) ∧ Same w wr ∧ Sat wr E
def dmE (B : Nat) (t : TailM) (vo vT vI : Value) (ms rs : List (List UInt8)) (X : HProp) : HProp := pts B (.cells (tailA t) TTail (0, 0)) * (ownS vo ms * ((ownT vT rs * ownS vI rs) * X))
theorem dm_facts {w : World} {B g c k : Nat} {t : TailM} {vo vI : Value} {ms rs : List (List UInt8)} {X Y : HProp} (hk : k ≤ rs.length) (h : Sat w (dmE B t vo (.slice (some ⟨g, 0, none⟩) (rs.length + 1) c) vI ms rs X * Y)) :
    (w.cell? ⟨B, 0, none⟩ = some (.int .i64 t.next) ∧ w.cell? ⟨B, 1, none⟩ = some (.int .i64 t.number) ∧ w.cell? ⟨B, 2, none⟩ = some (.int .i64 t.gen.epoch) ∧ w.cell? ⟨B, 3, none⟩ = some (.int .i64 t.gen.count) ∧ B < w.heap.size) ∧
    (w.cell? ⟨g, k * 4, none⟩ = some (.int .i64 (tailK rs k).next) ∧ w.cell? ⟨g, k * 4 + 1, none⟩ = some (.int .i64 (tailK rs k).number) ∧ w.cell? ⟨g, k * 4 + 2, none⟩ = some (.int .i64 (tailK rs k).gen.epoch) ∧ w.cell? ⟨g, k * 4 + 3, none⟩ = some (.int .i64 (tailK rs k).gen.count) ∧ g < w.heap.size) ∧
    StrsAt w vo (ms.map strB) ∧ StrsAt w vI (rs.map strB) := by
  unfold dmE at h
  refine ⟨t4 (X := _) (h.perm (star_assoc _ _ _)), ownT_c4 (h.perm (show _ = ownT (.slice (some ⟨g, 0, none⟩) (rs.length + 1) c) rs * (pts B (.cells (tailA t) TTail (0, 0)) * (ownS vo ms * (ownS vI rs * (X * Y)))) from by ac_rfl)) hk, ?_, ?_⟩
  · exact ownS_strs (h.perm (show _ = ownS vo ms * (pts B (.cells (tailA t) TTail (0, 0)) * (ownT (.slice (some ⟨g, 0, none⟩) (rs.length + 1) c) rs * (ownS vI rs * (X * Y)))) from by ac_rfl))
  · exact ownS_strs (h.perm (show _ = ownS vI rs * (pts B (.cells (tailA t) TTail (0, 0)) * (ownT (.slice (some ⟨g, 0, none⟩) (rs.length + 1) c) rs * (ownS vo ms * (X * Y)))) from by ac_rfl))
theorem dm_range {w : World} {B g c k : Nat} {nx nu ge gc : Int} {vo vI : Value} {ms rs : List (List UInt8)} {X Y : HProp} (hk : k ≤ rs.length) (hT : tailK rs k = ⟨nx, nu, ⟨ge, gc⟩⟩) (h : Sat w (dmE B (tailK rs k) vo (.slice (some ⟨g, 0, none⟩) (rs.length + 1) c) vI ms rs X * Y)) :
    w.rangeAt B 0 (tailA ⟨nx, nu, ⟨ge, gc⟩⟩).toList ∧ w.rangeAt g (0 + k * 4) (tailA ⟨nx, nu, ⟨ge, gc⟩⟩).toList := by
  rw [hT] at h
  unfold dmE at h
  constructor
  · have h1 := cells_at (h.perm (star_assoc _ _ _)).block
    intro j x hx
    rw [h1, Nat.zero_add]
    simpa using hx
  · have h4 := (ownT_at (h.perm (show _ = ownT (.slice (some ⟨g, 0, none⟩) (rs.length + 1) c) rs * (pts B (.cells (tailA ⟨nx, nu, ⟨ge, gc⟩⟩) TTail (0, 0)) * (ownS vo ms * (ownS vI rs * (X * Y)))) from by ac_rfl)) hk).1
    rw [hT] at h4
    exact h4
theorem dm_old {B : Nat} {t : TailM} {vo vT vI : Value} {ms rs : List (List UInt8)} (S W : HProp) : pts B (.cells (tailA t) TTail (0, 0)) * ((ownS vo ms * (ownT vT rs * ownS vI rs)) * (S * W)) = dmE B t vo vT vI ms rs S * W := by
  unfold dmE; ac_rfl
theorem dm_scan {p : Nat} {size : Int} {S2 : ShelfM} {rs : List (List UInt8)} {k : Nat} (hf : FineS (cfgW size) S2) (h1 : 1 ≤ size) (h2 : size ≤ 40) (hl : rs.length ≤ 40) (hsc : ScanL (conL S2 0) size.toNat 0 t0 (rs.take k) (tailK rs k)) (X F : HProp) (W : World) (h : Sat W (X * (shelfAt SH p S2 * F))) :
    Calls Try.prog 12 #[.pointer (some ⟨p, 0, none⟩), .int .i64 0, .agg (tailA t0)] W fun e w' => ∃ v, e = .returned (.tuple #[v, .agg (tailA (tailK rs k)), .int .i64 0]) ∧ Hid (Same W w' ∧ Sat w' ((ownS v (rs.take k) * X) * (shelfAt SH p S2 * F))) := by
  have hN : ((size.toNat : Nat) : Int) = logN (cfgW size) := by rw [cfgW_logN h1]; omega
  have h3 := scan_fine (F := X * F) (d := 0) hf hN (by show (3 : Int) ≤ size + 3; omega) ⟨by decide, by show (0 : Int) < 2; decide⟩ (t := t0) (by decide) hsc (by rw [List.length_take]; omega) (h.perm (star_left_comm _ _ _))
  exact h3.mono fun e w' ⟨v, he, hs⟩ => ⟨v, he, hs.out.1, hs.out.2.perm (by ac_rfl)⟩
theorem dm_flush {p : Nat} {S : ShelfM} (X F : HProp) (W : World) (h : Sat W (X * (shelfAt SH p S * F))) : Calls Try.prog 16 #[.pointer (some ⟨p, 0, none⟩)] W fun e w' => e = .returned (.int .i64 S.flushAll.2) ∧ Hid (Same W w' ∧ Sat w' (X * (shelfAt SH p S.flushAll.1 * F))) :=
  (flushAll_any p S (X * F) W (h.perm (star_left_comm _ _ _))).mono fun _ _ h => ⟨h.1, h.2.out.1, h.2.out.2.perm (star_left_comm _ _ _)⟩
theorem dm_rot {p : Nat} {S : ShelfM} (a : PlaceM) (bit : Int) (X F : HProp) (W : World) (h : Sat W (X * (shelfAt SH p S * F))) : Calls Try.prog 17 #[.pointer (some ⟨p, 0, none⟩), .agg (plA a), .int .i64 bit] W fun e w' => e = .returned (.int .i64 (S.rot a bit).2) ∧ Hid (Same W w' ∧ Sat w' (X * (shelfAt SH p (S.rot a bit).1 * F))) :=
  (srot_any p S (X * F) a bit W (h.perm (star_left_comm _ _ _))).mono fun _ _ h => ⟨h.1, h.2.out.1, h.2.out.2.perm (star_left_comm _ _ _)⟩
set_option maxHeartbeats 4000000 in
set_option maxRecDepth 100000 in
theorem damage_law (size index bit : Int) (v : Value) (l : List (List UInt8)) (w : World) (hv : StrsAt w v (List.map strB l)) (hsz : ∀ r ∈ l, r.length ≤ 9223372036854775807) :
    Calls Try.prog 7 #[.int .i64 size, v, .int .i64 index, .int .i64 bit] w fun e w' => e = .returned (.bool true) ∧ Below w.heap.size w w' := by
  obtain ⟨ao, cap, rfl, _⟩ := id hv
  rw [List.length_map] at *
  have HSAN := Lib.hid (fun X W (h : Sat W (X * old w)) => sanity_old w W h)
  have HW := Lib.hid (show Sat w (emp * old w) from by rw [emp_star]; exact Sat.old w)
  cases d1 : decide (size < 1)
  · skip
    cases d2 : decide (40 < size)
    · skip
      cases d3 : decide ((40 : Int) < (l.length : Int))
      · skip
        cases d4 : decide (index < 0)
        · skip
          cases d5 : decide (size ≤ index)
          · skip
            cases d6 : decide (bit < 0)
            · skip
              cases d7 : decide (511 < bit)
              · skip
                have hs1 : 1 ≤ size := by have := of_decide_eq_false d1; omega
                have hs2 : size ≤ 40 := by have := of_decide_eq_false d2; omega
                have hll : l.length ≤ 40 := by have := of_decide_eq_false d3; omega
                have hi1 := of_decide_eq_false d4
                have hi2 := of_decide_eq_false d5
                have hb1 := of_decide_eq_false d6
                have hb2 := of_decide_eq_false d7
                obtain ⟨index, rfl⟩ := Int.eq_ofNat_of_zero_le (show 0 ≤ index by omega)
                have HLOG := Lib.hid (log_any size hs1 hs2 _ l hll hsz (old w) w (Sat.old w) (fun W hW => hv.old1 hW))
                have HB := Lib.hid (And.intro hs1 (And.intro hs2 (And.intro hll (show (index : Int) < size ∧ 0 ≤ bit ∧ bit < 512 from ⟨by omega, by omega, by omega⟩))))
                clear hv hsz hs1 hs2 hll hi1 hi2 hb1 hb2
                go_enter Try.func7, Try.ntmps7
                go_upto_region 4 with (go_at_call 11; refine HLOG.out.mono ?_; rintro e w1 ⟨p, n, S, vt, vi, hn, hinv, _, rfl, h1⟩)
                have hlen : (l.take n).length = n := by rw [List.length_take]; omega
                have hn40 : n ≤ 40 := Nat.le_trans hn HB.out.2.2.1
                generalize l.take n = rs at hlen hinv h1
                subst hlen
                obtain ⟨g9, c9, rfl, _⟩ := ownT_open h1.out.2
                obtain ⟨ao10, cp10, rfl⟩ := ownAt_slice h1.out.2.right
                obtain ⟨hf1, hf2, hf3⟩ := flushAll_fine hinv.fine
                obtain ⟨hr1, hr2, hr3⟩ := rot_fine hf2 (d := 0) (by decide) (by show (0 : Int) < 2; decide) (i := index) (by show (index : Int) < size + 3; have := HB.out.2.2.2; omega) (bit := bit) ⟨HB.out.2.2.2.2.1, HB.out.2.2.2.2.2⟩
                have HFL := Lib.hid (fun X W h => dm_flush (p := p) (S := S) X (old w) W h)
                have HRO := Lib.hid (fun X W h => dm_rot (p := p) (S := S.flushAll.1) ⟨0, 1, (index : Int)⟩ bit X (old w) W h)
                have HE1 := Lib.hid hf1
                have HE2 := Lib.hid hr1
                rw [hf1] at HFL
                rw [hr1] at HRO
                have H1 := Lib.hid (And.intro h1.out.1 (h1.out.2.perm (star_assoc _ _ _).symm))
                rw [hf3] at hr3
                generalize S.flushAll.1 = S1 at HFL HRO hr2 hr3 HE2
                generalize (S1.rot ⟨0, 1, (index : Int)⟩ bit).1 = S2 at HRO hr2 hr3
                have hdm : ∀ k : Nat, k ≤ rs.length → (tailK rs k).next ≤ (index : Int) → (k < rs.length → (index : Int) < (tailK rs (k + 1)).next) → ScanL (conL S2 0) size.toNat 0 t0 (rs.take k) (tailK rs k) := fun k hk hlo hhi =>
                  damage_scan hinv HB.out.1 HB.out.2.1 (by omega) (i := index) (bit := bit.toNat) (by have := HB.out.2.2.2; omega) (fun j => by rw [hr3]; simp) hk hlo hhi
                have HSC := Lib.hid (fun (k : Nat) (hk : k ≤ rs.length) (hlo : (tailK rs k).next ≤ (index : Int)) (hhi : k < rs.length → (index : Int) < (tailK rs (k + 1)).next) => dm_scan (p := p) hr2 HB.out.1 HB.out.2.1 hn40 (hdm k hk hlo hhi))
                clear h1 hinv hn hf1 hf2 hf3 hr1 hr2 hr3 hdm HE1 HE2
                go_wp2_with (first
                  | (go_at_call 16; refine (HFL.out _ _ H1.out.2).mono ?_; rintro e w2 ⟨rfl, h2⟩; replace H1 := Lib.hid (And.intro (H1.out.1.trans h2.out.1) h2.out.2); clear h2)
                  | (go_at_call 17; refine (HRO.out _ _ H1.out.2).mono ?_; rintro e w3 ⟨rfl, h2⟩; replace H1 := Lib.hid (And.intro (H1.out.1.trans h2.out.1) h2.out.2); clear h2)
                  | fail)
                obtain ⟨E, hE⟩ : ∃ E, E = (ownT (.slice (some ⟨g9, 0, none⟩) (rs.length + 1) c9) rs * ownS (.slice ao10 rs.length cp10) rs) * (shelfAt SH p S2 * old w) := ⟨_, rfl⟩
                have hst : DmSt w E rs (index : Int) (.int .i64 0) w3 := ⟨⟨0, Nat.zero_le _, by show sumN (rs.take 0) ≤ (index : Int); simp [sumN], rfl, H1.out.1, by rw [hE]; exact H1.out.2⟩⟩
                have HST := Lib.hid hst
                clear hst
                have HEE := Lib.hid hE
                clear H1 hE HLOG HFL HRO
                go_loopw [12] (fun v12 wr => DmSt w E rs (index : Int) v12 wr) (fun v12 _ => rs.length - (intOf v12).toNat)
                case atStart => exact HST.out
                case round =>
                  obtain ⟨k, hk, hlo, rfl, hsm, hs⟩ := hrel.st
                  clear hrel HST
                  rw [HEE.out] at hs
                  have H1 := Lib.hid (And.intro hsm hs)
                  have hk40 : (k : Int) ≤ 40 := by omega
                  have hwr1 : IntKind.i64.wrap ((k : Int) + 1) = ((k + 1 : Nat) : Int) := wrap_nat (k + 1) (by omega)
                  by_cases hgo : k < rs.length ∧ (tailK rs (k + 1)).next ≤ (index : Int)
                  · obtain ⟨hlt, hle⟩ := hgo
                    have hltd : decide ((k : Int) < (rs.length : Int)) = true := decide_eq_true (by omega)
                    have hled : decide ((tailK rs (k + 1)).next ≤ (index : Int)) = true := decide_eq_true hle
                    obtain ⟨c0, _, _, _, lc⟩ := ownT_c4 (hs.perm (star_assoc _ _ _)) (show k + 1 ≤ rs.length by omega)
                    have hk1 : k + 1 < rs.length + 1 := by omega
                    have HLE := Lib.hid hle
                    clear hs hsm hle
                    go_wp2
                    go_roundw
                    case rel => exact ⟨⟨k + 1, hlt, HLE.out, rfl, H1.out.1, by rw [HEE.out]; exact H1.out.2⟩⟩
                    case measure => simp only [intOf]; omega
                  · have HSK := Lib.hid (HSC.out k hk hlo (fun h => Int.not_le.1 (fun hn => hgo ⟨h, hn⟩)))
                    have HK := Lib.hid hk
                    have hwrk : IntKind.i64.wrap (k : Int) = (k : Int) := wrap_nat k (by omega)
                    have hkl : k < rs.length + 1 := by omega
                    have hcp := ownAt_cap (hs.perm (rd_perm3 _ _ _))
                    have hkc : k ≤ cp10 := by omega
                    have hkz : k ≤ rs.length := hk
                    rcases Nat.lt_or_ge k rs.length with hlt | hge
                    · have hnle : decide ((tailK rs (k + 1)).next ≤ (index : Int)) = false := decide_eq_false (fun h => hgo ⟨hlt, h⟩)
                      have hltd : decide ((k : Int) < (rs.length : Int)) = true := decide_eq_true (by omega)
                      obtain ⟨c0, _, _, _, lc⟩ := ownT_c4 (hs.perm (star_assoc _ _ _)) (show k + 1 ≤ rs.length by omega)
                      have hk1 : k + 1 < rs.length + 1 := by omega
                      clear hs hsm hgo hcp
                      go_upto_region 10 with (go_at_call 12; refine (HSK.out _ _ _ H1.out.2).mono ?_; rintro e w4 ⟨vo, rfl, h2⟩; replace H1 := Lib.hid (And.intro (H1.out.1.trans h2.out.1) h2.out.2); clear h2)
                      replace H1 := Lib.hid (And.intro (H1.out.1.alloc (.cells (tailA (tailK rs k)) TTail)) ((H1.out.2.alloc (.cells (tailA (tailK rs k)) TTail)).perm (dm_old _ _)))
                      obtain ⟨ao13, cp13, rfl⟩ := ownAt_slice (show Sat _ (ownS vo (rs.take k) * _) from H1.out.2.left.right)
                      have hlk : (rs.take k).length = k := by rw [List.length_take]; omega
                      rw [hlk] at H1 ⊢
                      generalize w4.alloc (.cells (tailA (tailK rs k)) TTail) = w5 at H1 ⊢
                      generalize w4.heap.size = B at H1 ⊢
                      obtain ⟨⟨b0, b1, b2, b3, lb⟩, ⟨d0, d1, d2, d3, ld⟩, so, si⟩ := dm_facts HK.out H1.out.2
                      have HM := Lib.hid (show (List.map strB (rs.take k)).length ≤ 4611686018427387904 by rw [List.length_map, List.length_take]; omega)
                      clear b0 b1 b2 b3 lb d0 d1 d2 d3 ld so si
                      obtain ⟨nx, nu, ge, gc, hT⟩ : ∃ nx nu ge gc : Int, tailK rs k = ⟨nx, nu, ⟨ge, gc⟩⟩ := ⟨_, _, _, _, rfl⟩
                      replace H1 := Lib.hid (And.intro H1.out.1.drew H1.out.2.drew)
                      have hS0 := dm_range HK.out hT H1.out.2
                      rw [hT] at H1
                      obtain ⟨ti, hti, hz0, hts, hz2⟩ := info_parts infoTail4
                      have HTI := Lib.hid (And.intro hti hts)
                      have HT := Lib.hid hT
                      have HKL := Lib.hid hkl
                      have HCP := Lib.hid hkc
                      clear hti hz0 hts hz2 hT hlk
                      refine reg_begin (fun w' => w'.rangeAt B 0 (tailA ⟨nx, nu, ⟨ge, gc⟩⟩).toList ∧ w'.rangeAt g9 (0 + k * 4) (tailA ⟨nx, nu, ⟨ge, gc⟩⟩).toList) (by kernel_rfl) ?_
                      generalize w5.drew = w8 at H1 hS0 ⊢
                      refine reg_call 0 rfl rfl (by decide +kernel) rfl (f := 10) (args := #[]) (R := fun v w' => v = .bool true ∧ Hid (Same w8 w' ∧ Sat w' (dmE B ⟨nx, nu, ⟨ge, gc⟩⟩ (.slice ao13 k cp13) (.slice (some ⟨g9, 0, none⟩) (rs.length + 1) c9) (.slice ao10 rs.length cp10) (rs.take k) rs (shelfAt SH p S2) * old w))) (by kernel_rfl) ((HSAN.out _ _ H1.out.2).mono fun e w' h => ⟨_, h.1, rfl, h.2⟩) ?_
                      rintro _ w9 ⟨rfl, hx⟩
                      replace H1 := Lib.hid (And.intro (H1.out.1.trans hx.out.1) hx.out.2)
                      clear hx
                      replace hS0 := dm_range HK.out HT.out (by rw [HT.out]; exact H1.out.2)
                      refine ⟨hS0, ?_⟩
                      simp only [List.setIfInBounds_toArray, List.set_cons_succ, List.set_cons_zero]
                      (apply reg_take 1 rfl rfl (by decide +kernel) rfl); (rintro w' ⟨h1, h2⟩; go_simp; rfl); exact hS0; simp only [List.setIfInBounds_toArray, List.set_cons_succ, List.set_cons_zero]
                      (apply reg_take 2 rfl rfl (by decide +kernel) rfl); (rintro w' ⟨h1, h2⟩; go_simp; rfl); exact hS0; simp only [List.setIfInBounds_toArray, List.set_cons_succ, List.set_cons_zero]
                      (apply reg_take 3 rfl rfl (by decide +kernel) rfl); (rintro w' ⟨h1, h2⟩; go_simp; rfl); exact hS0; simp only [List.setIfInBounds_toArray, List.set_cons_succ, List.set_cons_zero]
                      (apply reg_take 4 rfl rfl (by decide +kernel) rfl); (rintro w' ⟨h1, h2⟩; go_simp; rfl); exact hS0; simp only [List.setIfInBounds_toArray, List.set_cons_succ, List.set_cons_zero]
                      (apply reg_take 5 rfl rfl (by decide +kernel) rfl); (rintro w' ⟨h1, h2⟩; go_simp; rfl); exact hS0; simp only [List.setIfInBounds_toArray, List.set_cons_succ, List.set_cons_zero]
                      (apply reg_take 6 rfl rfl (by decide +kernel) rfl); (rintro w' ⟨h1, h2⟩; go_simp; rfl); exact hS0; simp only [List.setIfInBounds_toArray, List.set_cons_succ, List.set_cons_zero]
                      (apply reg_take 7 rfl rfl (by decide +kernel) rfl); (rintro w' ⟨h1, h2⟩; go_simp; rfl); exact hS0; simp only [List.setIfInBounds_toArray, List.set_cons_succ, List.set_cons_zero]
                      (apply reg_take 8 rfl rfl (by decide +kernel) rfl); (rintro w' ⟨h1, h2⟩; go_simp; rfl); exact hS0; simp only [List.setIfInBounds_toArray, List.set_cons_succ, List.set_cons_zero]
                      refine reg_take 9 (v := cutV ao10 k cp10) rfl rfl (by decide +kernel) rfl (fun w' h => exec_slice_his rfl rfl rfl HCP.out) hS0 ?_; simp only [List.setIfInBounds_toArray, List.set_cons_succ, List.set_cons_zero]
                      refine reg_call 10 rfl rfl (by decide +kernel) rfl (f := 14) (args := #[.slice ao13 k cp13, cutV ao10 k cp10]) (R := fun v w' => v = .bool true ∧ Hid (Same w9 w' ∧ Sat w' (dmE B ⟨nx, nu, ⟨ge, gc⟩⟩ (.slice ao13 k cp13) (.slice (some ⟨g9, 0, none⟩) (rs.length + 1) c9) (.slice ao10 rs.length cp10) (rs.take k) rs (shelfAt SH p S2) * old w))) (by kernel_rfl) ((same18_any _ _ ((rs.take k).map strB) ((rs.take k).map strB) _ (dm_facts HK.out H1.out.2).2.2.1 (by rw [List.map_take]; exact StrsAt.cut (dm_facts HK.out H1.out.2).2.2.2 (by rw [List.length_map]; exact HK.out)) HM.out).mono fun e w' h => ⟨_, h.1, by simp, (Same.refl _).below h.2, H1.out.2.below h.2⟩) ?_
                      rintro _ w10 ⟨rfl, hx⟩
                      replace H1 := Lib.hid (And.intro (H1.out.1.trans hx.out.1) hx.out.2)
                      clear hx
                      replace hS0 := dm_range HK.out HT.out (by rw [HT.out]; exact H1.out.2)
                      refine ⟨hS0, ?_⟩
                      simp only [List.setIfInBounds_toArray, List.set_cons_succ, List.set_cons_zero]
                      (apply reg_take 11 rfl rfl (by decide +kernel) rfl); (rintro w' ⟨h1, h2⟩; go_simp; rfl); exact hS0; simp only [List.setIfInBounds_toArray, List.set_cons_succ, List.set_cons_zero]
                      (apply reg_take 12 rfl rfl (by decide +kernel) rfl); (rintro w' ⟨h1, h2⟩; go_simp; rfl); exact hS0; simp only [List.setIfInBounds_toArray, List.set_cons_succ, List.set_cons_zero]
                      refine reg_take 13 (v := .agg (tailA ⟨nx, nu, ⟨ge, gc⟩⟩)) rfl rfl (by decide +kernel) rfl (fun w' h => exec_load_tail rfl rfl h.1) hS0 ?_; simp only [List.setIfInBounds_toArray, List.set_cons_succ, List.set_cons_zero]
                      (apply reg_take 14 rfl rfl (by decide +kernel) rfl); (rintro w' ⟨h1, h2⟩; go_simp; rfl); exact hS0; simp only [List.setIfInBounds_toArray, List.set_cons_succ, List.set_cons_zero]
                      (apply reg_take 15 rfl rfl (by decide +kernel) rfl); (rintro w' ⟨h1, h2⟩; go_simp; rfl); exact hS0; simp only [List.setIfInBounds_toArray, List.set_cons_succ, List.set_cons_zero]
                      refine reg_take 16 (v := .pointer (some ⟨g9, 0 + k * 4, none⟩)) rfl rfl (by decide +kernel) rfl (fun w' h => exec_index_slice rfl rfl rfl Try.underlying25 HTI.out.1 HTI.out.2 HKL.out) hS0 ?_; simp only [List.setIfInBounds_toArray, List.set_cons_succ, List.set_cons_zero]
                      refine reg_take 17 (v := .agg (tailA ⟨nx, nu, ⟨ge, gc⟩⟩)) rfl rfl (by decide +kernel) rfl (fun w' h => exec_load_tail rfl rfl h.2) hS0 ?_; simp only [List.setIfInBounds_toArray, List.set_cons_succ, List.set_cons_zero]
                      refine reg_take 18 (v := .bool true) rfl rfl (by decide +kernel) rfl (fun w' h => exec_eql_tail rfl rfl rfl) hS0 ?_; simp only [List.setIfInBounds_toArray, List.set_cons_succ, List.set_cons_zero]
                      (apply reg_take 19 rfl rfl (by decide +kernel) rfl); (rintro w' ⟨h1, h2⟩; go_simp; rfl); exact hS0; simp only [List.setIfInBounds_toArray, List.set_cons_succ, List.set_cons_zero]
                      (apply reg_take 20 rfl rfl (by decide +kernel) rfl); (rintro w' ⟨h1, h2⟩; go_simp; rfl); exact hS0; simp only [List.setIfInBounds_toArray, List.set_cons_succ, List.set_cons_zero]
                      refine reg_done (by decide +kernel) ?_
                      go_wp2
                      go_ret
                      exact ⟨rfl, H1.out.1.below_of H1.out.2⟩
                    · obtain rfl : k = rs.length := by omega
                      have hltd : decide ((rs.length : Int) < (rs.length : Int)) = false := decide_eq_false (by omega)
                      clear hs hsm hgo hcp
                      go_upto_region 10 with (go_at_call 12; refine (HSK.out _ _ _ H1.out.2).mono ?_; rintro e w4 ⟨vo, rfl, h2⟩; replace H1 := Lib.hid (And.intro (H1.out.1.trans h2.out.1) h2.out.2); clear h2)
                      replace H1 := Lib.hid (And.intro (H1.out.1.alloc (.cells (tailA (tailK rs rs.length)) TTail)) ((H1.out.2.alloc (.cells (tailA (tailK rs rs.length)) TTail)).perm (dm_old _ _)))
                      obtain ⟨ao13, cp13, rfl⟩ := ownAt_slice (show Sat _ (ownS vo (rs.take rs.length) * _) from H1.out.2.left.right)
                      have hlk : (rs.take rs.length).length = rs.length := by rw [List.length_take]; omega
                      rw [hlk] at H1 ⊢
                      generalize w4.alloc (.cells (tailA (tailK rs rs.length)) TTail) = w5 at H1 ⊢
                      generalize w4.heap.size = B at H1 ⊢
                      obtain ⟨⟨b0, b1, b2, b3, lb⟩, ⟨d0, d1, d2, d3, ld⟩, so, si⟩ := dm_facts HK.out H1.out.2
                      have HM := Lib.hid (show (List.map strB (rs.take rs.length)).length ≤ 4611686018427387904 by rw [List.length_map, List.length_take]; omega)
                      clear b0 b1 b2 b3 lb d0 d1 d2 d3 ld so si
                      obtain ⟨nx, nu, ge, gc, hT⟩ : ∃ nx nu ge gc : Int, tailK rs rs.length = ⟨nx, nu, ⟨ge, gc⟩⟩ := ⟨_, _, _, _, rfl⟩
                      replace H1 := Lib.hid (And.intro H1.out.1.drew H1.out.2.drew)
                      have hS0 := dm_range HK.out hT H1.out.2
                      rw [hT] at H1
                      obtain ⟨ti, hti, hz0, hts, hz2⟩ := info_parts infoTail4
                      have HTI := Lib.hid (And.intro hti hts)
                      have HT := Lib.hid hT
                      have HKL := Lib.hid hkl
                      have HCP := Lib.hid hkc
                      clear hti hz0 hts hz2 hT hlk
                      refine reg_begin (fun w' => w'.rangeAt B 0 (tailA ⟨nx, nu, ⟨ge, gc⟩⟩).toList ∧ w'.rangeAt g9 (0 + rs.length * 4) (tailA ⟨nx, nu, ⟨ge, gc⟩⟩).toList) (by kernel_rfl) ?_
                      generalize w5.drew = w8 at H1 hS0 ⊢
                      refine reg_call 0 rfl rfl (by decide +kernel) rfl (f := 10) (args := #[]) (R := fun v w' => v = .bool true ∧ Hid (Same w8 w' ∧ Sat w' (dmE B ⟨nx, nu, ⟨ge, gc⟩⟩ (.slice ao13 rs.length cp13) (.slice (some ⟨g9, 0, none⟩) (rs.length + 1) c9) (.slice ao10 rs.length cp10) (rs.take rs.length) rs (shelfAt SH p S2) * old w))) (by kernel_rfl) ((HSAN.out _ _ H1.out.2).mono fun e w' h => ⟨_, h.1, rfl, h.2⟩) ?_
                      rintro _ w9 ⟨rfl, hx⟩
                      replace H1 := Lib.hid (And.intro (H1.out.1.trans hx.out.1) hx.out.2)
                      clear hx
                      replace hS0 := dm_range HK.out HT.out (by rw [HT.out]; exact H1.out.2)
                      refine ⟨hS0, ?_⟩
                      simp only [List.setIfInBounds_toArray, List.set_cons_succ, List.set_cons_zero]
                      (apply reg_take 1 rfl rfl (by decide +kernel) rfl); (rintro w' ⟨h1, h2⟩; go_simp; rfl); exact hS0; simp only [List.setIfInBounds_toArray, List.set_cons_succ, List.set_cons_zero]
                      (apply reg_take 2 rfl rfl (by decide +kernel) rfl); (rintro w' ⟨h1, h2⟩; go_simp; rfl); exact hS0; simp only [List.setIfInBounds_toArray, List.set_cons_succ, List.set_cons_zero]
                      (apply reg_take 3 rfl rfl (by decide +kernel) rfl); (rintro w' ⟨h1, h2⟩; go_simp; rfl); exact hS0; simp only [List.setIfInBounds_toArray, List.set_cons_succ, List.set_cons_zero]
                      (apply reg_take 4 rfl rfl (by decide +kernel) rfl); (rintro w' ⟨h1, h2⟩; go_simp; rfl); exact hS0; simp only [List.setIfInBounds_toArray, List.set_cons_succ, List.set_cons_zero]
                      (apply reg_take 5 rfl rfl (by decide +kernel) rfl); (rintro w' ⟨h1, h2⟩; go_simp; rfl); exact hS0; simp only [List.setIfInBounds_toArray, List.set_cons_succ, List.set_cons_zero]
                      (apply reg_take 6 rfl rfl (by decide +kernel) rfl); (rintro w' ⟨h1, h2⟩; go_simp; rfl); exact hS0; simp only [List.setIfInBounds_toArray, List.set_cons_succ, List.set_cons_zero]
                      (apply reg_take 7 rfl rfl (by decide +kernel) rfl); (rintro w' ⟨h1, h2⟩; go_simp; rfl); exact hS0; simp only [List.setIfInBounds_toArray, List.set_cons_succ, List.set_cons_zero]
                      (apply reg_take 8 rfl rfl (by decide +kernel) rfl); (rintro w' ⟨h1, h2⟩; go_simp; rfl); exact hS0; simp only [List.setIfInBounds_toArray, List.set_cons_succ, List.set_cons_zero]
                      refine reg_take 9 (v := cutV ao10 rs.length cp10) rfl rfl (by decide +kernel) rfl (fun w' h => exec_slice_his rfl rfl rfl HCP.out) hS0 ?_; simp only [List.setIfInBounds_toArray, List.set_cons_succ, List.set_cons_zero]
                      refine reg_call 10 rfl rfl (by decide +kernel) rfl (f := 14) (args := #[.slice ao13 rs.length cp13, cutV ao10 rs.length cp10]) (R := fun v w' => v = .bool true ∧ Hid (Same w9 w' ∧ Sat w' (dmE B ⟨nx, nu, ⟨ge, gc⟩⟩ (.slice ao13 rs.length cp13) (.slice (some ⟨g9, 0, none⟩) (rs.length + 1) c9) (.slice ao10 rs.length cp10) (rs.take rs.length) rs (shelfAt SH p S2) * old w))) (by kernel_rfl) ((same18_any _ _ ((rs.take rs.length).map strB) ((rs.take rs.length).map strB) _ (dm_facts HK.out H1.out.2).2.2.1 (by rw [List.map_take]; exact StrsAt.cut (dm_facts HK.out H1.out.2).2.2.2 (by rw [List.length_map]; exact HK.out)) HM.out).mono fun e w' h => ⟨_, h.1, by simp, (Same.refl _).below h.2, H1.out.2.below h.2⟩) ?_
                      rintro _ w10 ⟨rfl, hx⟩
                      replace H1 := Lib.hid (And.intro (H1.out.1.trans hx.out.1) hx.out.2)
                      clear hx
                      replace hS0 := dm_range HK.out HT.out (by rw [HT.out]; exact H1.out.2)
                      refine ⟨hS0, ?_⟩
                      simp only [List.setIfInBounds_toArray, List.set_cons_succ, List.set_cons_zero]
                      (apply reg_take 11 rfl rfl (by decide +kernel) rfl); (rintro w' ⟨h1, h2⟩; go_simp; rfl); exact hS0; simp only [List.setIfInBounds_toArray, List.set_cons_succ, List.set_cons_zero]
                      (apply reg_take 12 rfl rfl (by decide +kernel) rfl); (rintro w' ⟨h1, h2⟩; go_simp; rfl); exact hS0; simp only [List.setIfInBounds_toArray, List.set_cons_succ, List.set_cons_zero]
                      refine reg_take 13 (v := .agg (tailA ⟨nx, nu, ⟨ge, gc⟩⟩)) rfl rfl (by decide +kernel) rfl (fun w' h => exec_load_tail rfl rfl h.1) hS0 ?_; simp only [List.setIfInBounds_toArray, List.set_cons_succ, List.set_cons_zero]
                      (apply reg_take 14 rfl rfl (by decide +kernel) rfl); (rintro w' ⟨h1, h2⟩; go_simp; rfl); exact hS0; simp only [List.setIfInBounds_toArray, List.set_cons_succ, List.set_cons_zero]
                      (apply reg_take 15 rfl rfl (by decide +kernel) rfl); (rintro w' ⟨h1, h2⟩; go_simp; rfl); exact hS0; simp only [List.setIfInBounds_toArray, List.set_cons_succ, List.set_cons_zero]
                      refine reg_take 16 (v := .pointer (some ⟨g9, 0 + rs.length * 4, none⟩)) rfl rfl (by decide +kernel) rfl (fun w' h => exec_index_slice rfl rfl rfl Try.underlying25 HTI.out.1 HTI.out.2 HKL.out) hS0 ?_; simp only [List.setIfInBounds_toArray, List.set_cons_succ, List.set_cons_zero]
                      refine reg_take 17 (v := .agg (tailA ⟨nx, nu, ⟨ge, gc⟩⟩)) rfl rfl (by decide +kernel) rfl (fun w' h => exec_load_tail rfl rfl h.2) hS0 ?_; simp only [List.setIfInBounds_toArray, List.set_cons_succ, List.set_cons_zero]
                      refine reg_take 18 (v := .bool true) rfl rfl (by decide +kernel) rfl (fun w' h => exec_eql_tail rfl rfl rfl) hS0 ?_; simp only [List.setIfInBounds_toArray, List.set_cons_succ, List.set_cons_zero]
                      (apply reg_take 19 rfl rfl (by decide +kernel) rfl); (rintro w' ⟨h1, h2⟩; go_simp; rfl); exact hS0; simp only [List.setIfInBounds_toArray, List.set_cons_succ, List.set_cons_zero]
                      (apply reg_take 20 rfl rfl (by decide +kernel) rfl); (rintro w' ⟨h1, h2⟩; go_simp; rfl); exact hS0; simp only [List.setIfInBounds_toArray, List.set_cons_succ, List.set_cons_zero]
                      refine reg_done (by decide +kernel) ?_
                      go_wp2
                      go_ret
                      exact ⟨rfl, H1.out.1.below_of H1.out.2⟩
              · skip
                clear hv hsz
                go_enter Try.func7, Try.ntmps7
                go_wp2_with (go_at_call 10; refine (HSAN.out emp _ HW.out).mono ?_; rintro e w1 ⟨rfl, h1⟩)
                go_ret
                exact ⟨rfl, h1.out.1.below_of h1.out.2⟩
            · skip
              clear hv hsz
              go_enter Try.func7, Try.ntmps7
              go_wp2_with (go_at_call 10; refine (HSAN.out emp _ HW.out).mono ?_; rintro e w1 ⟨rfl, h1⟩)
              go_ret
              exact ⟨rfl, h1.out.1.below_of h1.out.2⟩
          · skip
            clear hv hsz
            go_enter Try.func7, Try.ntmps7
            go_wp2_with (go_at_call 10; refine (HSAN.out emp _ HW.out).mono ?_; rintro e w1 ⟨rfl, h1⟩)
            go_ret
            exact ⟨rfl, h1.out.1.below_of h1.out.2⟩
        · skip
          clear hv hsz
          go_enter Try.func7, Try.ntmps7
          go_wp2_with (go_at_call 10; refine (HSAN.out emp _ HW.out).mono ?_; rintro e w1 ⟨rfl, h1⟩)
          go_ret
          exact ⟨rfl, h1.out.1.below_of h1.out.2⟩
      · skip
        clear hv hsz
        go_enter Try.func7, Try.ntmps7
        go_wp2_with (go_at_call 10; refine (HSAN.out emp _ HW.out).mono ?_; rintro e w1 ⟨rfl, h1⟩)
        go_ret
        exact ⟨rfl, h1.out.1.below_of h1.out.2⟩
    · skip
      clear hv hsz
      go_enter Try.func7, Try.ntmps7
      go_wp2_with (go_at_call 10; refine (HSAN.out emp _ HW.out).mono ?_; rintro e w1 ⟨rfl, h1⟩)
      go_ret
      exact ⟨rfl, h1.out.1.below_of h1.out.2⟩
  · skip
    clear hv hsz
    go_enter Try.func7, Try.ntmps7
    go_wp2_with (go_at_call 10; refine (HSAN.out emp _ HW.out).mono ?_; rintro e w1 ⟨rfl, h1⟩)
    go_ret
    exact ⟨rfl, h1.out.1.below_of h1.out.2⟩
end Go.Proofs.Ytbegomjbakidmaa

/- WalDamage: its row. -/
namespace Go.Proofs.Ytbegomjbakidmaa
open Go.ChangeShapes Go.WideShapes Go.ChangeAt Go.RowKit Go.Sl Go.ChangeMaps
set_option maxRecDepth 100000 in
theorem walDamage_lifted (os : Os) (started : os.Started) (H : Type) (enc : TypeId × Value → H) :
    ReturnsInHanded {} Try.checked os 7 .any (Rows.walDamageSpec.pre6 enc Try.prog Try.f7 Rows.walDamageRow.domain false) (Rows.walDamageSpec.post enc Try.prog Try.f7 false true false false) := by
  refine returnsInHanded_of_change (C := Try.checked) law_own started (by kernel_rfl) Try.func7
    (ChangeSpec.witness6 (enc := enc) (C := Try.checked) false ⟨#[], #[.int .i64 0, .slice none 0 0, .int .i64 0, .int .i64 0], []⟩ 8 (by kernel_rfl) (by kernel_rfl) (by kernel_rfl) (by kernel_rfl)) ?_
  intro W base args ds gs before hval0 hW _ _
  have hval : ∀ (j : Nat) t v, Try.f7.params[j]? = some t → args[j]? = some v → Value.okWide Try.prog W .any base t v := hval0
  have hW' := hW
  obtain ⟨p, q, hA0, hV, rfl, _, _⟩ := hW
  have hA : DataW.TrodAll enc Try.prog W 0 (fun _ => true) true Try.f7.params.toList args.toList ds p := hA0
  rw [Try.params7] at hA hval
  obtain ⟨w0, vs0, d0, ds0, p0, q0, hargs, rfl, rfl, h0, r0⟩ := trodAll_cons hA
  obtain ⟨w1, vs1, d1, ds1, p1, q1, rfl, rfl, rfl, h1, r1⟩ := trodAll_cons r0
  obtain ⟨w2, vs2, d2, ds2, p2, q2, rfl, rfl, rfl, h2, r2⟩ := trodAll_cons r1
  obtain ⟨w3, vs3, d3, ds3, p3, q3, rfl, rfl, rfl, h3, r3⟩ := trodAll_cons r2
  obtain ⟨rfl, rfl, rfl⟩ := trodAll_nil r3
  obtain rfl : args = #[w0, w1, w2, w3] := by cases args; simp_all
  obtain ⟨rfl, rfl⟩ := trodVars_none hV
  obtain ⟨b0, rfl, rfl, rfl, wf0⟩ := open_int Try.underlying3 (hval 0 3 w0 rfl rfl) h0
  obtain ⟨v1, l1, e1, s1, _, m1⟩ := rd_strs (trod_rd h1)
  obtain ⟨x1, y1, z1, rfl⟩ := okWide_slice Try.underlying22 (hval 1 _ w1 rfl rfl)
  obtain rfl : .slice x1 y1 z1 = v1 := by simpa [Value.cells] using e1
  obtain ⟨b2, rfl, rfl, rfl, wf2⟩ := open_int Try.underlying3 (hval 2 3 w2 rfl rfl) h2
  obtain ⟨b3, rfl, rfl, rfl, wf3⟩ := open_int Try.underlying3 (hval 3 3 w3 rfl rfl) h3
  refine (damage_law _ _ _ _ _ W s1 m1).mono fun e W' ⟨he, hg⟩ => ?_
  subst he
  exact ⟨_, rfl, law_post (by kernel_rfl) rfl (of_decide_eq_true (by kernel_rfl)) rfl hW' hg⟩

theorem walDamage_holds : Rows.WalDamageSaid :=
  OpenClaim.holds_of_wide 7 Try.f7 rfl rfl rfl rfl rfl rfl rfl ⟨rfl, rfl, rfl, rfl, rfl⟩ rfl rfl rfl rfl rfl (by kernel_rfl) Try.func7 (by kernel_rfl)
    (of_decide_eq_true (by kernel_rfl)) (by unfold Func.isWrapper; first | (rw [if_pos (by decide +kernel)]; kernel_rfl) | (rw [if_neg (by decide +kernel)]; exact ⟨rfl, rfl⟩))
    (fun os started H enc _ => walDamage_lifted os started H enc)


end Go.Proofs.Ytbegomjbakidmaa
