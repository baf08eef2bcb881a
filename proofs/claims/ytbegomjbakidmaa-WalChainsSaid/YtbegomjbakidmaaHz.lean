/- WalChains: for all sizes, records and places the law answers true. -/
import Derived.Test.YtbegomjbakidmaaHn
namespace Go.Proofs.Ytbegomjbakidmaa
open Go.RowKit Go.Sl Go.ChangeMaps

/-- The second disk's log after i of its records: as the first one's, or whole. -/
def ChAt (size : Int) (S : ShelfM) (f0 : Nat → List UInt8) (l : List (List UInt8)) (other : List UInt8) (k i : Nat) (t : TailM) : Prop :=
  (i ≤ k ∧ ChI size S f0 l i ∧ t = tailK l i) ∨ (i = k + 1 ∧ FineS (cfgW size) S ∧ conL S 0 = f0 ∧ LogL (conL S 1) size.toNat 1 t0 (l.take k ++ [other]) ⟨sumN (l.take (k + 1)), (k : Int) + 1, ⟨2, 0⟩⟩ ∧ t = ⟨sumN (l.take (k + 1)), (k : Int) + 1, ⟨2, 0⟩⟩)
structure ChSt (w : World) (size : Int) (l : List (List UInt8)) (other : List UInt8) (k : Nat) (f0 : Nat → List UInt8) (p g9 c9 T : Nat) (v15 : Value) (wr : World) : Prop where
  st : ∃ (i : Nat) (S : ShelfM) (t : TailM) (Y : HProp), i ≤ k + 1 ∧ v15 = .int .i64 (i : Int) ∧ ChAt size S f0 l other k i t ∧ Same w wr ∧ Sat wr ((pts T (.cells (tailA t) TTail (0, 0)) * (ownT (.slice (some ⟨g9, 0, none⟩) (l.length + 1) c9) l * Y)) * (shelfAt SH p S * old w))
theorem ch_facts {w : World} {Yb Xb V U B T : Nat} {t u la : TailM} {vb va : Value} {ms1 ms0 : List (List UInt8)} {Z Q : HProp} (h : Sat w ((pts Yb (.cells (tailA t) TTail (0, 0)) * (ownS vb ms1 * (pts Xb (.cells (tailA u) TTail (0, 0)) * (ownS va ms0 * (pts V (.cells (tailA u) TTail (0, 0)) * (pts U (.cells (tailA u) TTail (0, 0)) * (pts B (.cells (tailA la) TTail (0, 0)) * (pts T (.cells (tailA t) TTail (0, 0)) * Z)))))))) * Q)) :
    (w.cell? ⟨Yb, 0, none⟩ = some (.int .i64 t.next) ∧ w.cell? ⟨Yb, 1, none⟩ = some (.int .i64 t.number) ∧ w.cell? ⟨Yb, 2, none⟩ = some (.int .i64 t.gen.epoch) ∧ w.cell? ⟨Yb, 3, none⟩ = some (.int .i64 t.gen.count) ∧ Yb < w.heap.size) ∧ (w.cell? ⟨Xb, 0, none⟩ = some (.int .i64 u.next) ∧ w.cell? ⟨Xb, 1, none⟩ = some (.int .i64 u.number) ∧ w.cell? ⟨Xb, 2, none⟩ = some (.int .i64 u.gen.epoch) ∧ w.cell? ⟨Xb, 3, none⟩ = some (.int .i64 u.gen.count) ∧ Xb < w.heap.size) ∧ (w.cell? ⟨V, 0, none⟩ = some (.int .i64 u.next) ∧ w.cell? ⟨V, 1, none⟩ = some (.int .i64 u.number) ∧ w.cell? ⟨V, 2, none⟩ = some (.int .i64 u.gen.epoch) ∧ w.cell? ⟨V, 3, none⟩ = some (.int .i64 u.gen.count) ∧ V < w.heap.size) ∧ (w.cell? ⟨U, 0, none⟩ = some (.int .i64 u.next) ∧ w.cell? ⟨U, 1, none⟩ = some (.int .i64 u.number) ∧ w.cell? ⟨U, 2, none⟩ = some (.int .i64 u.gen.epoch) ∧ w.cell? ⟨U, 3, none⟩ = some (.int .i64 u.gen.count) ∧ U < w.heap.size) ∧ (w.cell? ⟨T, 0, none⟩ = some (.int .i64 t.next) ∧ w.cell? ⟨T, 1, none⟩ = some (.int .i64 t.number) ∧ w.cell? ⟨T, 2, none⟩ = some (.int .i64 t.gen.epoch) ∧ w.cell? ⟨T, 3, none⟩ = some (.int .i64 t.gen.count) ∧ T < w.heap.size) ∧ StrsAt w vb (ms1.map strB) ∧ StrsAt w va (ms0.map strB) := by
  have h0 := h.left
  have h1 := h0.right
  have h2 := h1.right
  have h3 := h2.right
  have h4 := h3.right
  have h5 := h4.right
  have h6 := h5.right
  have h7 := h6.right
  exact ⟨t4 h0, t4 h2, t4 h4, t4 h5, t4 h7, ownS_strs h1, ownS_strs h3⟩
theorem strs_last {w : World} {ao : Option Addr} {n cap : Nat} {l : List (List UInt8)} {r : List UInt8} (h : StrsAt w (.slice ao n cap) ((l ++ [r]).map strB)) {i : Nat} (hi : l.length = i) : ∃ b off, ao = some ⟨b, off, none⟩ ∧ w.cell? ⟨b, off + i, none⟩ = some (.string (strB r)) := by
  obtain ⟨_, _, e, h0⟩ := h
  obtain ⟨b, off, e0, hc⟩ := h0 (by simp)
  injection e with e1
  refine ⟨b, off, e1.trans e0, ?_⟩
  have := hc i (strB r) (by rw [List.getElem?_map, ← hi, List.getElem?_append_right (Nat.le_refl _), Nat.sub_self]; rfl)
  rw [Nat.mul_one] at this
  exact this
theorem ch_cell {w : World} {b off i : Nat} {ao : Option Addr} {n cap : Nat} {l : List (List UInt8)} {r : List UInt8} (h : StrsAt w (.slice ao n cap) ((l ++ [r]).map strB)) (hi : l.length = i) (ha : ao = some ⟨b, off, none⟩) : w.cell? ⟨b, off + i, none⟩ = some (.string (strB r)) ∧ b < w.heap.size := by
  obtain ⟨b', off', e, hc⟩ := strs_last h hi
  rw [ha] at e
  cases e
  refine ⟨hc, ?_⟩
  rcases Nat.lt_or_ge b w.heap.size with h2 | h2
  · exact h2
  · simp [World.cell?, Array.getElem?_eq_none h2] at hc
set_option maxHeartbeats 4000000 in
set_option maxRecDepth 100000 in
theorem chains_law (size k : Int) (v : Value) (l : List (List UInt8)) (other more : List UInt8) (w : World) (hv : StrsAt w v (List.map strB l)) (hsz : ∀ r ∈ l, r.length ≤ 9223372036854775807) (ho : other.length ≤ 9223372036854775807) (hm : more.length ≤ 9223372036854775807) :
    Calls Try.prog 6 #[.int .i64 size, v, .string (strB other), .string (strB more), .int .i64 k] w fun e w' => e = .returned (.bool true) ∧ Below w.heap.size w w' := by
  obtain ⟨ao, cap, rfl, hv0⟩ := id hv
  rw [List.length_map] at *
  have HSAN := Lib.hid (fun X W (h : Sat W (X * old w)) => sanity_old w W h)
  have HW := Lib.hid (show Sat w (emp * old w) from by rw [emp_star]; exact Sat.old w)
  cases d1 : decide (size < 1)
  · skip
    cases d2 : decide (40 < size)
    · skip
      cases d3 : decide ((40 : Int) < (l.length : Int))
      · skip
        cases d4 : decide (k < 0)
        · skip
          cases d5 : decide ((l.length : Int) ≤ k)
          · skip
            have hs1 : 1 ≤ size := by have := of_decide_eq_false d1; omega
            have hs2 : size ≤ 40 := by have := of_decide_eq_false d2; omega
            have hll : l.length ≤ 40 := by have := of_decide_eq_false d3; omega
            have hk0 := of_decide_eq_false d4
            have hk1 := of_decide_eq_false d5
            obtain ⟨k, rfl⟩ := Int.eq_ofNat_of_zero_le (show 0 ≤ k by omega)
            have hkl : k < l.length := by omega
            obtain ⟨r, hr⟩ : ∃ r, l[k]? = some r := ⟨_, List.getElem?_eq_getElem hkl⟩
            obtain ⟨b0, off, rfl, hcl⟩ := str_cell hv hr
            have hcw := hcl w (Sat.old w)
            rw [Nat.mul_one] at hcw
            have hso : (strB other).size = other.length := strB_size other
            have hsr : (strB r).size = r.length := strB_size r
            by_cases hlen6 : other.length = r.length
            · have heq6 : ((other.length : Int) == (r.length : Int)) = true := by simp [hlen6]
              have hpos6 : (other.length : Int) = (r.length : Int) := by omega
              have HLOG := Lib.hid (log_any size hs1 hs2 _ l hll hsz (old w) w (Sat.old w) (fun W hW => hv.old1 hW))
              have HB := Lib.hid (And.intro hs1 (And.intro hs2 (And.intro hll (And.intro hkl (And.intro ho hm)))))
              have HV := Lib.hid hv
              have HLN := Lib.hid (show ∀ r', l[k]? = some r' → other.length = r'.length from fun r' h => by rw [hr] at h; cases h; exact hlen6)
              clear hv hsz hs1 hs2 hll ho hm hv0 hr hlen6
              go_enter Try.func6, Try.ntmps6
              go_upto_region 4 with (go_at_call 11; refine HLOG.out.mono ?_; rintro e w1 ⟨p, n, S, vt, vi, hn, hinv, _, rfl, h1⟩)
              have hlen : (l.take n).length = n := by rw [List.length_take]; omega
              obtain ⟨g9, c9, rfl, _⟩ := ownT_open h1.out.2
              obtain ⟨ao10, cp10, rfl⟩ := ownAt_slice h1.out.2.right
              rw [hlen] at h1 ⊢
              rcases Nat.lt_or_ge n l.length with hlt | hge
              · have hne : ((n : Int) == (l.length : Int)) = false := by simp; omega
                have hne2 : ¬ (n : Int) = (l.length : Int) := by omega
                clear hinv
                go_wp2_with (go_at_call 10; refine (HSAN.out _ _ (h1.out.2.perm (show _ = (ownT (.slice (some ⟨g9, 0, none⟩) (n + 1) c9) (l.take n) * (ownS (.slice ao10 n cp10) (l.take n) * shelfAt SH p S)) * old w from by ac_rfl))).mono ?_; rintro e w6 ⟨rfl, hx⟩)
                all_goals (first
                  | (exfalso; omega)
                  | (go_ret; exact ⟨rfl, (h1.out.1.trans hx.out.1).below_of hx.out.2⟩))
              · obtain rfl : n = l.length := by omega
                rw [List.take_length] at h1 hinv
                have heq : ((l.length : Int) == (l.length : Int)) = true := by simp
                have H1 := Lib.hid (And.intro h1.out.1 (h1.out.2.perm (star_assoc _ _ _).symm))
                have HI0 := Lib.hid hinv
                have HSM := Lib.hid hinv.small
                have HSU := Lib.hid hinv.log.fit
                have hch := chI_start hinv
                obtain ⟨f0, hf0⟩ : ∃ f0, f0 = conL S 0 := ⟨_, rfl⟩
                rw [← hf0] at hch
                have HF0 := Lib.hid hf0
                clear h1 hinv hf0
                go_wp2
                have hst : ChSt w size l other k f0 p g9 c9 w1.heap.size (.int .i64 0) (w1.alloc (.cells #[.int .i64 0, .int .i64 0, .int .i64 0, .int .i64 0] TTail)) :=
                  ⟨⟨0, S, t0, _, Nat.zero_le _, rfl, .inl ⟨Nat.zero_le _, hch, (tailK_zero l).symm⟩, H1.out.1.alloc _, (H1.out.2.alloc (.cells #[.int .i64 0, .int .i64 0, .int .i64 0, .int .i64 0] TTail)).perm (star_assoc _ _ _).symm⟩⟩
                have HST := Lib.hid hst
                clear hst H1 hch hlen
                generalize w1.alloc (.cells #[.int .i64 0, .int .i64 0, .int .i64 0, .int .i64 0] TTail) = w2 at HST ⊢
                generalize w1.heap.size = T at HST ⊢
                go_loopw [15] (fun v15 wr => ChSt w size l other k f0 p g9 c9 T v15 wr) (fun v15 _ => k + 2 - (intOf v15).toNat)
                case atStart => exact HST.out
                case round =>
                  obtain ⟨i, S, t, Y, hi, rfl, hat, hsm, hs⟩ := hrel.st
                  clear hrel HST
                  have H1 := Lib.hid (And.intro hsm hs)
                  clear hsm hs
                  have hll := HB.out.2.2.1
                  have hkl := HB.out.2.2.2.1
                  have hwr1 : IntKind.i64.wrap ((i : Int) + 1) = (i : Int) + 1 := IntWalk.i64_in _ (by omega)
                  rcases hat with ⟨hik, hinv, rfl⟩ | ⟨rfl, hf, hz0, hlog, rfl⟩
                  · have hled : decide ((i : Int) ≤ (k : Int)) = true := decide_eq_true (by omega)
                    obtain ⟨r, hr⟩ : ∃ r, l[i]? = some r := ⟨_, List.getElem?_eq_getElem (show i < l.length by omega)⟩
                    obtain ⟨bi, offi, hao, hcl⟩ := str_cell HV.out hr
                    have hao2 : some (⟨b0, off, none⟩ : Addr) = some ⟨bi, offi, none⟩ := hao
                    cases hao2
                    have hcw := hcl wr H1.out.2.right.right
                    rw [Nat.mul_one] at hcw
                    have hilt : i < l.length := by omega
                    have hr4 := HSM.out r (List.mem_of_getElem? hr)
                    rcases Nat.lt_or_ge i k with hlt | hge
                    · have hrl : r.length ≤ 9223372036854775807 := by omega
                      have hne : ((i : Int) == (k : Int)) = false := by simp; omega
                      obtain ⟨S', ha, hci⟩ := chI_app hinv HB.out.1 HB.out.2.1 hll HSU.out hr hr4
                      clear hr hr4 hcl
                      have HAP := Lib.hid (fun (X : HProp) (W : World) (h : Sat W (X * (shelfAt SH p S * old w))) => app_to ha hrl X W h)
                      have HCI := Lib.hid hci
                      clear ha hci hinv hrl
                      obtain ⟨b0, b1, b2, b3, lb⟩ := t4 (H1.out.2.perm (star_assoc _ _ _))
                      go_upto_region 16 with (go_at_call 15; refine (HAP.out _ _ (H1.out.2.allocKeep _)).mono ?_; rintro e w5 ⟨rfl, h2⟩; replace H1 := Lib.hid (And.intro ((H1.out.1.alloc _).trans h2.out.1) h2.out.2); clear h2 b0 b1 b2 b3 lb)
                      replace H1 := Lib.hid (And.intro (H1.out.1.alloc (.cells (tailA (tailK l (i + 1))) TTail)) (H1.out.2.alloc (.cells (tailA (tailK l (i + 1))) TTail)))
                      generalize w5.alloc (.cells (tailA (tailK l (i + 1))) TTail) = w6 at H1 ⊢
                      generalize w5.heap.size = g at H1 ⊢
                      obtain ⟨g0, g1, g2, g3, lg⟩ := t4 H1.out.2
                      have hp1 := H1.out.2.perm (show _ = pts T (.cells (tailA (tailK l i)) TTail (0, 0)) * (pts g (.cells (tailA (tailK l (i + 1))) TTail (0, 0)) * ((ownT (.slice (some ⟨g9, 0, none⟩) (l.length + 1) c9) l * Y) * (shelfAt SH p S' * old w))) from by ac_rfl)
                      obtain ⟨f0', f1', f2', f3'⟩ := t_thawed hp1
                      obtain ⟨t0', t1', t2', t3', lt⟩ := t4 hp1
                      obtain ⟨hm', hs'⟩ := t_put H1.out.1 hp1 (tailK l (i + 1)).next (tailK l (i + 1)).number (tailK l (i + 1)).gen.epoch (tailK l (i + 1)).gen.count
                      have HP := Lib.hid (And.intro hm' (hs'.perm (show _ = (pts T (.cells (tailA (tailK l (i + 1))) TTail (0, 0)) * (ownT (.slice (some ⟨g9, 0, none⟩) (l.length + 1) c9) l * (Y * pts g (.cells (tailA (tailK l (i + 1))) TTail (0, 0))))) * (shelfAt SH p S' * old w) from by ac_rfl)))
                      clear hp1 hm' hs'
                      go_wp2
                      go_roundw
                      case rel => exact ⟨⟨i + 1, S', _, _, by omega, rfl, .inl ⟨hlt, HCI.out, rfl⟩, HP.out.1, HP.out.2⟩⟩
                      case measure => simp only [intOf]; omega
                    · obtain rfl : i = k := by omega
                      have hrl : other.length ≤ 9223372036854775807 := HB.out.2.2.2.2.1
                      have hne : ((i : Int) == (i : Int)) = true := by simp
                      obtain ⟨S', ha, hci⟩ := chI_last hinv HB.out.1 HB.out.2.1 hll HSU.out hr hr4 (HLN.out r hr)
                      clear hr hr4 hcl
                      have HAP := Lib.hid (fun (X : HProp) (W : World) (h : Sat W (X * (shelfAt SH p S * old w))) => app_to ha hrl X W h)
                      have HCI := Lib.hid hci
                      clear ha hci hinv hrl
                      obtain ⟨b0, b1, b2, b3, lb⟩ := t4 (H1.out.2.perm (star_assoc _ _ _))
                      go_upto_region 16 with (go_at_call 15; refine (HAP.out _ _ (H1.out.2.allocKeep _)).mono ?_; rintro e w5 ⟨rfl, h2⟩; replace H1 := Lib.hid (And.intro ((H1.out.1.alloc _).trans h2.out.1) h2.out.2); clear h2 b0 b1 b2 b3 lb)
                      replace H1 := Lib.hid (And.intro (H1.out.1.alloc (.cells (tailA ⟨sumN (l.take (i + 1)), (i : Int) + 1, ⟨2, 0⟩⟩) TTail)) (H1.out.2.alloc (.cells (tailA ⟨sumN (l.take (i + 1)), (i : Int) + 1, ⟨2, 0⟩⟩) TTail)))
                      generalize w5.alloc (.cells (tailA ⟨sumN (l.take (i + 1)), (i : Int) + 1, ⟨2, 0⟩⟩) TTail) = w6 at H1 ⊢
                      generalize w5.heap.size = g at H1 ⊢
                      obtain ⟨g0, g1, g2, g3, lg⟩ := t4 H1.out.2
                      have hp1 := H1.out.2.perm (show _ = pts T (.cells (tailA (tailK l i)) TTail (0, 0)) * (pts g (.cells (tailA ⟨sumN (l.take (i + 1)), (i : Int) + 1, ⟨2, 0⟩⟩) TTail (0, 0)) * ((ownT (.slice (some ⟨g9, 0, none⟩) (l.length + 1) c9) l * Y) * (shelfAt SH p S' * old w))) from by ac_rfl)
                      obtain ⟨f0', f1', f2', f3'⟩ := t_thawed hp1
                      obtain ⟨t0', t1', t2', t3', lt⟩ := t4 hp1
                      obtain ⟨hm', hs'⟩ := t_put H1.out.1 hp1 (sumN (l.take (i + 1))) ((i : Int) + 1) 2 0
                      have HP := Lib.hid (And.intro hm' (hs'.perm (show _ = (pts T (.cells (tailA ⟨sumN (l.take (i + 1)), (i : Int) + 1, ⟨2, 0⟩⟩) TTail (0, 0)) * (ownT (.slice (some ⟨g9, 0, none⟩) (l.length + 1) c9) l * (Y * pts g (.cells (tailA ⟨sumN (l.take (i + 1)), (i : Int) + 1, ⟨2, 0⟩⟩) TTail (0, 0))))) * (shelfAt SH p S' * old w) from by ac_rfl)))
                      clear hp1 hm' hs'
                      go_wp2
                      go_roundw
                      case rel => exact ⟨⟨i + 1, S', _, _, Nat.le_refl _, rfl, .inr ⟨rfl, HCI.out.1, HCI.out.2.1, HCI.out.2.2, rfl⟩, HP.out.1, HP.out.2⟩⟩
                      case measure => simp only [intOf]; omega
                  · have hled : decide (((k + 1 : Nat) : Int) ≤ (k : Int)) = false := decide_eq_false (by omega)
                    have hled2 : decide ((k : Int) + 1 ≤ (k : Int)) = false := decide_eq_false (by omega)
                    have hnle2 : ¬ ((k : Int) + 1 ≤ (k : Int)) := by omega
                    have hnle : ¬ (((k + 1 : Nat) : Int) ≤ (k : Int)) := by omega
                    have hra := (ownT_at (H1.out.2.perm (show _ = ownT (.slice (some ⟨g9, 0, none⟩) (l.length + 1) c9) l * (pts T (.cells (tailA ⟨sumN (l.take (k + 1)), (k : Int) + 1, ⟨2, 0⟩⟩) TTail (0, 0)) * (Y * (shelfAt SH p S * old w))) from by ac_rfl)) (show k + 1 ≤ l.length by omega)).1
                    rw [Nat.zero_add] at hra
                    have hk1 : k + 1 < l.length + 1 := by omega
                    have hwk1 : IntKind.i64.wrap ((k : Int) + 1) = (k : Int) + 1 := IntWalk.i64_in _ (by omega)
                    have hwk2 : IntKind.i64.wrap ((k : Int) + 2) = (k : Int) + 2 := IntWalk.i64_in _ (by omega)
                    have hrlm : more.length ≤ 9223372036854775807 := HB.out.2.2.2.2.2
                    rcases ch_more HI0.out HB.out.1 HB.out.2.1 hll hkl hf (hz0.trans HF0.out) hlog (more := more) with ⟨er, her, ha, hb⟩ | ⟨S1, S2, u, ha, hb, hf2, hsc0, hsc1⟩
                    · have her0 : (er != 0) = true := by simpa [bne] using her
                      have HAP := Lib.hid (fun (X : HProp) (W : World) (h : Sat W (X * (shelfAt SH p S * old w))) => app_to ha hrlm X W h)
                      have HBP := Lib.hid (fun (X : HProp) (W : World) (h : Sat W (X * (shelfAt SH p S * old w))) => app_to hb hrlm X W h)
                      clear ha hb hf hz0 hlog
                      go_wp2_with (first
                        | ((with_reducible (apply wp_load_tail hra)); rfl; rfl; rfl)
                        | (go_at_call 15; (with_reducible refine (HAP.out _ _ ((H1.out.2.alloc (.cells (tailA (tailK l (k + 1))) TTail)).perm (star_assoc _ _ _).symm)).mono ?_); rintro e w5 ⟨rfl, h2⟩; replace H1 := Lib.hid (And.intro ((H1.out.1.alloc _).trans h2.out.1) h2.out.2); clear h2 hra HAP; obtain ⟨b0', b1', b2', b3', lb⟩ := t4 (H1.out.2.perm (star_assoc _ _ _)))
                        | (go_at_call 15; (with_reducible refine (HBP.out _ _ (H1.out.2.allocKeep _)).mono ?_); rintro e w6 ⟨rfl, h2⟩; replace H1 := Lib.hid (And.intro ((H1.out.1.alloc _).trans h2.out.1) h2.out.2); clear h2 b0' b1' b2' b3' lb)
                        | (go_at_call 10; refine (HSAN.out _ _ ((H1.out.2.allocKeep _).perm (star_assoc _ _ _).symm)).mono ?_; rintro e w7 ⟨rfl, h2⟩; replace H1 := Lib.hid (And.intro ((H1.out.1.alloc _).trans h2.out.1) (h2.out.2.perm (star_assoc _ _ _))); clear h2)
                        | fail)
                      all_goals (first
                        | (exfalso; omega)
                        | (go_ret; exact ⟨rfl, H1.out.1.below_of (H1.out.2.perm (star_assoc _ _ _).symm)⟩))
                    · obtain ⟨un, uu, ⟨ug, uc⟩⟩ := u
                      have HAP := Lib.hid (fun (X : HProp) (W : World) (h : Sat W (X * (shelfAt SH p S * old w))) => app_to ha hrlm X W h)
                      have HBP := Lib.hid (fun (X : HProp) (W : World) (h : Sat W (X * (shelfAt SH p S1 * old w))) => app_to hb hrlm X W h)
                      have hm0 : (l.take (k + 1) ++ [more]).length = k + 2 := by rw [List.length_append, List.length_take]; simp; omega
                      have hm1 : (l.take k ++ [other]).length = k + 1 := by rw [List.length_append, List.length_take]; simp; omega
                      have HS0 := Lib.hid (fun X W h => scan_to (p := p) (F := old w) hf2 HB.out.1 HB.out.2.1 (d := 0) ⟨by decide, by decide⟩ hsc0 (by omega) X W h)
                      have HS1 := Lib.hid (fun X W h => scan_to (p := p) (F := old w) hf2 HB.out.1 HB.out.2.1 (d := 1) ⟨by decide, by decide⟩ hsc1 (by omega) X W h)
                      have HM0 := Lib.hid hm0
                      have HM1 := Lib.hid hm1
                      have HT0 := Lib.hid (show (l.take (k + 1)).length = k + 1 by rw [List.length_take]; omega)
                      have HT1 := Lib.hid (show (l.take k).length = k by rw [List.length_take]; omega)
                      have hkk : k + 1 < k + 2 := by omega
                      have hkk1 : k < k + 1 := by omega
                      have hwk : IntKind.i64.wrap (k : Int) = (k : Int) := IntWalk.i64_in _ (by omega)
                      clear ha hb hf hz0 hlog hf2 hsc0 hsc1 hm0 hm1
                      go_wp2_with (first
                        | ((with_reducible (apply wp_load_tail hra)); rfl; rfl; rfl)
                        | (go_at_call 15; (with_reducible refine (HAP.out _ _ ((H1.out.2.alloc (.cells (tailA (tailK l (k + 1))) TTail)).perm (star_assoc _ _ _).symm)).mono ?_); rintro e w5 ⟨rfl, h2⟩; replace H1 := Lib.hid (And.intro ((H1.out.1.alloc _).trans h2.out.1) h2.out.2); clear h2 hra HAP; obtain ⟨b0', b1', b2', b3', lb⟩ := t4 (H1.out.2.perm (star_assoc _ _ _)))
                        | (go_at_call 15; (with_reducible refine (HBP.out _ _ ((H1.out.2.alloc (.cells (tailA ⟨un, uu, ⟨ug, uc⟩⟩) TTail)).perm (star_assoc _ _ _).symm)).mono ?_); rintro e w6 ⟨rfl, h2⟩; replace H1 := Lib.hid (And.intro ((H1.out.1.alloc _).trans h2.out.1) h2.out.2); clear h2 b0' b1' b2' b3' lb HBP)
                        | (go_at_call 12; refine (HS0.out _ _ ((H1.out.2.alloc (.cells (tailA ⟨un, uu, ⟨ug, uc⟩⟩) TTail)).perm (star_assoc _ _ _).symm)).mono ?_; rintro e w7 ⟨va, rfl, h2⟩; replace H1 := Lib.hid (And.intro ((H1.out.1.alloc _).trans h2.out.1) h2.out.2); clear h2 HS0
                           obtain ⟨aoA, cpA, rfl⟩ := ownAt_slice (show Sat _ (ownS va (l.take (k + 1) ++ [more]) * _) from H1.out.2.left)
                           rw [HM0.out] at H1 ⊢)
                        | (go_at_call 12; refine (HS1.out _ _ ((H1.out.2.alloc (.cells (tailA ⟨un, uu, ⟨ug, uc⟩⟩) TTail)).perm (star_assoc _ _ _).symm)).mono ?_; rintro e w8 ⟨vb, rfl, h2⟩; replace H1 := Lib.hid (And.intro ((H1.out.1.alloc _).trans h2.out.1) h2.out.2); clear h2 HS1
                           obtain ⟨aoB, cpB, rfl⟩ := ownAt_slice (show Sat _ (ownS vb (l.take k ++ [other]) * _) from H1.out.2.left)
                           rw [HM1.out] at H1 ⊢)
                        | (go_at_call 10; refine (HSAN.out _ _ (((H1.out.2.alloc (.cells (tailA ⟨sumN (l.take (k + 1)), (k : Int) + 1, ⟨2, 0⟩⟩) TTail)).perm (star_assoc _ _ _).symm).perm (star_assoc _ _ _).symm)).mono ?_; rintro e w9 ⟨rfl, h2⟩; replace H1 := Lib.hid (And.intro ((H1.out.1.alloc _).trans h2.out.1) (h2.out.2.perm (star_assoc _ _ _))); clear h2
                           obtain ⟨⟨y0, y1, y2, y3, ly⟩, ⟨x0, x1, x2, x3, lx⟩, ⟨v0, v1, v2, v3, lv⟩, ⟨u0, u1, u2, u3, lu⟩, ⟨q0, q1, q2, q3, lq⟩, sb, sa⟩ := ch_facts H1.out.2
                           obtain ⟨bA, oA, rfl, _⟩ := strs_last sa HT0.out
                           obtain ⟨bB, oB, rfl, _⟩ := strs_last sb HT1.out
                           obtain ⟨hca, lca⟩ := ch_cell sa HT0.out rfl
                           obtain ⟨hcb, lcb⟩ := ch_cell sb HT1.out rfl)
                        | fail)
                      all_goals (first
                        | (exfalso; omega)
                        | (go_ret; exact ⟨rfl, H1.out.1.below_of (H1.out.2.perm (star_assoc _ _ _).symm)⟩))
            · have heq6 : ((other.length : Int) == (r.length : Int)) = false := by simp; omega
              have hneg6 : ¬ (other.length : Int) = (r.length : Int) := by omega
              clear hr hcl
              clear hv hsz
              go_enter Try.func6, Try.ntmps6
              go_wp2_with (go_at_call 10; refine (HSAN.out emp _ HW.out).mono ?_; rintro e w1 ⟨rfl, h1⟩)
              all_goals (first
                | (exfalso; omega)
                | (go_ret; exact ⟨rfl, h1.out.1.below_of h1.out.2⟩))
          · skip
            clear hv hsz
            go_enter Try.func6, Try.ntmps6
            go_wp2_with (go_at_call 10; refine (HSAN.out emp _ HW.out).mono ?_; rintro e w1 ⟨rfl, h1⟩)
            all_goals (first
              | (exfalso; omega)
              | (go_ret; exact ⟨rfl, h1.out.1.below_of h1.out.2⟩))
        · skip
          clear hv hsz
          go_enter Try.func6, Try.ntmps6
          go_wp2_with (go_at_call 10; refine (HSAN.out emp _ HW.out).mono ?_; rintro e w1 ⟨rfl, h1⟩)
          all_goals (first
            | (exfalso; omega)
            | (go_ret; exact ⟨rfl, h1.out.1.below_of h1.out.2⟩))
      · skip
        clear hv hsz
        go_enter Try.func6, Try.ntmps6
        go_wp2_with (go_at_call 10; refine (HSAN.out emp _ HW.out).mono ?_; rintro e w1 ⟨rfl, h1⟩)
        all_goals (first
          | (exfalso; omega)
          | (go_ret; exact ⟨rfl, h1.out.1.below_of h1.out.2⟩))
    · skip
      clear hv hsz
      go_enter Try.func6, Try.ntmps6
      go_wp2_with (go_at_call 10; refine (HSAN.out emp _ HW.out).mono ?_; rintro e w1 ⟨rfl, h1⟩)
      all_goals (first
        | (exfalso; omega)
        | (go_ret; exact ⟨rfl, h1.out.1.below_of h1.out.2⟩))
  · skip
    clear hv hsz
    go_enter Try.func6, Try.ntmps6
    go_wp2_with (go_at_call 10; refine (HSAN.out emp _ HW.out).mono ?_; rintro e w1 ⟨rfl, h1⟩)
    all_goals (first
      | (exfalso; omega)
      | (go_ret; exact ⟨rfl, h1.out.1.below_of h1.out.2⟩))
end Go.Proofs.Ytbegomjbakidmaa

/- WalChains: its row. -/
namespace Go.Proofs.Ytbegomjbakidmaa
open Go.ChangeShapes Go.WideShapes Go.ChangeAt Go.RowKit Go.Sl Go.ChangeMaps
set_option maxRecDepth 100000 in
theorem walChains_lifted (os : Os) (started : os.Started) (H : Type) (enc : TypeId × Value → H) :
    ReturnsInHanded {} Try.checked os 6 .any (Rows.walChainsSpec.pre6 enc Try.prog Try.f6 Rows.walChainsRow.domain false) (Rows.walChainsSpec.post enc Try.prog Try.f6 false true false false) := by
  refine returnsInHanded_of_change (C := Try.checked) law_own started (by kernel_rfl) Try.func6
    (ChangeSpec.witness6 (enc := enc) (C := Try.checked) false ⟨#[], #[.int .i64 0, .slice none 0 0, .string ⟨#[]⟩, .string ⟨#[]⟩, .int .i64 0], []⟩ 8 (by kernel_rfl) (by kernel_rfl) (by kernel_rfl) (by kernel_rfl)) ?_
  intro W base args ds gs before hval0 hW _ _
  have hval : ∀ (j : Nat) t v, Try.f6.params[j]? = some t → args[j]? = some v → Value.okWide Try.prog W .any base t v := hval0
  have hW' := hW
  obtain ⟨p, q, hA0, hV, rfl, _, _⟩ := hW
  have hA : DataW.TrodAll enc Try.prog W 0 (fun _ => true) true Try.f6.params.toList args.toList ds p := hA0
  rw [Try.params6] at hA hval
  obtain ⟨w0, vs0, d0, ds0, p0, q0, hargs, rfl, rfl, h0, r0⟩ := trodAll_cons hA
  obtain ⟨w1, vs1, d1, ds1, p1, q1, rfl, rfl, rfl, h1, r1⟩ := trodAll_cons r0
  obtain ⟨w2, vs2, d2, ds2, p2, q2, rfl, rfl, rfl, h2, r2⟩ := trodAll_cons r1
  obtain ⟨w3, vs3, d3, ds3, p3, q3, rfl, rfl, rfl, h3, r3⟩ := trodAll_cons r2
  obtain ⟨w4, vs4, d4, ds4, p4, q4, rfl, rfl, rfl, h4, r4⟩ := trodAll_cons r3
  obtain ⟨rfl, rfl, rfl⟩ := trodAll_nil r4
  obtain rfl : args = #[w0, w1, w2, w3, w4] := by cases args; simp_all
  obtain ⟨rfl, rfl⟩ := trodVars_none hV
  obtain ⟨b0, rfl, rfl, rfl, wf0⟩ := open_int Try.underlying3 (hval 0 3 w0 rfl rfl) h0
  obtain ⟨v1, l1, e1, s1, _, m1⟩ := rd_strs (trod_rd h1)
  obtain ⟨x1, y1, z1, rfl⟩ := okWide_slice Try.underlying22 (hval 1 _ w1 rfl rfl)
  obtain rfl : .slice x1 y1 z1 = v1 := by simpa [Value.cells] using e1
  obtain ⟨y2, rfl, rfl, rfl, z2⟩ := open_string Try.underlying9 (hval 2 _ w2 rfl rfl) h2
  obtain ⟨m2, rfl, g2⟩ := strB_of y2
  have n2 : m2.length ≤ 9223372036854775807 := by rw [g2]; exact z2
  obtain ⟨y3, rfl, rfl, rfl, z3⟩ := open_string Try.underlying9 (hval 3 _ w3 rfl rfl) h3
  obtain ⟨m3, rfl, g3⟩ := strB_of y3
  have n3 : m3.length ≤ 9223372036854775807 := by rw [g3]; exact z3
  obtain ⟨b4, rfl, rfl, rfl, wf4⟩ := open_int Try.underlying3 (hval 4 3 w4 rfl rfl) h4
  refine (chains_law _ _ _ _ _ _ W s1 m1 n2 n3).mono fun e W' ⟨he, hg⟩ => ?_
  subst he
  exact ⟨_, rfl, law_post (by kernel_rfl) rfl (of_decide_eq_true (by kernel_rfl)) rfl hW' hg⟩

theorem walChains_holds : Rows.WalChainsSaid :=
  OpenClaim.holds_of_wide 6 Try.f6 rfl rfl rfl rfl rfl rfl rfl ⟨rfl, rfl, rfl, rfl, rfl⟩ rfl rfl rfl rfl rfl (by kernel_rfl) Try.func6 (by kernel_rfl)
    (of_decide_eq_true (by kernel_rfl)) (by unfold Func.isWrapper; first | (rw [if_pos (by decide +kernel)]; kernel_rfl) | (rw [if_neg (by decide +kernel)]; exact ⟨rfl, rfl⟩))
    (fun os started H enc _ => walChains_lifted os started H enc)


end Go.Proofs.Ytbegomjbakidmaa
