import Derived.Test.YtbegomjbakidmaaGx
import Derived.Test.YtbegomjbakidmaaRd
import Derived.Test.YtbegomjbakidmaaZl
/- solventlaw18.log: a shelf to which records were appended, the tails and the records that fitted. -/
namespace Go.Proofs.Ytbegomjbakidmaa
open Go.RowKit Go.Sl Go.ChangeMaps

def tailsF (rs : List (List UInt8)) : Nat → List Value
  | 0 => []
  | n + 1 => tailsF rs n ++ (tailA (tailK rs n)).toList
theorem tailsF_length (rs : List (List UInt8)) : ∀ n, (tailsF rs n).length = n * 4
  | 0 => rfl
  | n + 1 => by rw [tailsF, List.length_append, tailsF_length rs n]; simp; omega
theorem tailsF_at (rs : List (List UInt8)) : ∀ {n k i : Nat}, k < n → i < 4 → (tailsF rs n)[k * 4 + i]? = (tailA (tailK rs k)).toList[i]?
  | 0, _, _, h, _ => absurd h (Nat.not_lt_zero _)
  | n + 1, k, i, h, hi => by
    rw [tailsF]
    by_cases hk : k < n
    · rw [List.getElem?_append_left (by rw [tailsF_length]; omega)]; exact tailsF_at rs hk hi
    · obtain rfl : k = n := by omega
      rw [List.getElem?_append_right (by rw [tailsF_length]; omega), tailsF_length]
      congr 1
      omega
theorem tailsF_snoc (rs : List (List UInt8)) (r : List UInt8) : ∀ {n : Nat}, n ≤ rs.length + 1 → tailsF (rs ++ [r]) n = tailsF rs n
  | 0, _ => rfl
  | n + 1, h => by rw [tailsF, tailsF, tailsF_snoc rs r (by omega), tailK_snoc (by omega)]
/-- The tails after each of the records. -/
def ownT (v : Value) (rs : List (List UInt8)) : HProp := ownAt TTail 4 v (rs.length + 1) (tailsF rs (rs.length + 1))
theorem ownT_open {w : World} {v : Value} {rs : List (List UInt8)} {F : HProp} (h : Sat w (ownT v rs * F)) :
    ∃ g cap, v = .slice (some ⟨g, 0, none⟩) (rs.length + 1) cap ∧ rs.length + 1 ≤ cap := by
  unfold ownT at h
  rcases ownAt_iff.1 h with ⟨_, hn, _⟩ | ⟨g, cap, cur, ⟨rfl, hc, _⟩, _⟩
  · exact absurd hn (by omega)
  · exact ⟨g, cap, rfl, hc⟩
theorem ownT_at {w : World} {g cap : Nat} {rs : List (List UInt8)} {F : HProp} (h : Sat w (ownT (.slice (some ⟨g, 0, none⟩) (rs.length + 1) cap) rs * F)) {k : Nat} (hk : k ≤ rs.length) :
    w.rangeAt g (0 + k * 4) (tailA (tailK rs k)).toList ∧ g < w.heap.size := by
  unfold ownT at h
  rcases ownAt_iff.1 h with ⟨_, hn, _⟩ | ⟨g', cap', cur, ⟨hv, hc, hm, hcs, htk, _⟩, hs⟩
  · exact absurd hn (by omega)
  · injection hv with hv _ _
    injection hv with hv
    injection hv with hv _ _
    subst hv
    refine ⟨fun j x hx => ?_, hs.lt⟩
    have hj : j < 4 := by
      rcases Nat.lt_or_ge j 4 with h1 | h1
      · exact h1
      · rw [List.getElem?_eq_none (by simpa using h1)] at hx; cases hx
    rw [cells_at hs.block, Nat.zero_add]
    rw [← tailsF_at rs (n := rs.length + 1) (by omega) hj, ← htk, List.getElem?_take] at hx
    split at hx
    · simpa using hx
    · cases hx
theorem ownT_snoc {v : Value} {rs : List (List UInt8)} {r : List UInt8} {n : Nat} (hn : n = rs.length) : ownAt TTail 4 v (n + 1 + 1) (tailsF rs (n + 1) ++ (tailA (tailK (rs ++ [r]) (n + 1))).toList) = ownT v (rs ++ [r]) := by
  subst hn
  unfold ownT
  rw [show (rs ++ [r]).length = rs.length + 1 by simp]
  show _ = ownAt TTail 4 v (rs.length + 1 + 1) (tailsF (rs ++ [r]) (rs.length + 1) ++ _)
  rw [tailsF_snoc rs r (Nat.le_refl _)]
theorem ownS_snoc {v : Value} {rs : List (List UInt8)} {r : List UInt8} : ownAt TString 1 v (rs.length + 1) (strsL rs ++ [.string (strB r)]) = ownS v (rs ++ [r]) := by
  unfold ownS strsL
  simp
theorem infoTail4 : (Try.prog.info? TTail).map (fun i => (i.zero, i.size, i.bytes)) = some (some (.agg (tailA noTail)), 4, 32) := by kernel_rfl
theorem exec_load_tail {o : Oper} {a : Act} {w : World} {x : Operand} {b off : Nat} {t : TailM} (ho : o.op = .load TTail x) (hx : a.eval x = .pointer (some ⟨b, off, none⟩)) (h : w.rangeAt b off (tailA t).toList) : (execOp a.eval o).run Try.prog w = .ok (.value (.agg (tailA t))) w :=
  exec_load ho hx (run_loadAt_mid w b off TTail _ _ h Try.underlying31 rfl (infoTail rfl))
/-- A slice of strings that was there before, at one of its places. -/
theorem strs_at {l : List ByteArray} {ao : Option Addr} {n cap : Nat} {w : World} (h : StrsAt w (.slice ao n cap) l) : n = l.length := by
  obtain ⟨_, _, e, _⟩ := h
  injection e
structure LgSt (w : World) (F : HProp) (size : Int) (l : List (List UInt8)) (p : Nat) (v9 v10 v11 : Value) (wr : World) : Prop where
  st : ∃ (n : Nat) (S : ShelfM), n ≤ l.length ∧ v11 = .int .i64 (n : Int) ∧ InvK size S (l.take n) ∧ Same w wr ∧ Sat wr (ownT v9 (l.take n) * (ownS v10 (l.take n) * (shelfAt SH p S * F)))
def LogOut (w : World) (F : HProp) (size : Int) (l : List (List UInt8)) (e : Ending) (w' : World) : Prop :=
  ∃ (p n : Nat) (S : ShelfM) (vt vi : Value), n ≤ l.length ∧ InvK size S (l.take n) ∧ (n < l.length → ∀ r, l[n]? = some r → appErr (cfgW size) 0 (tailK (l.take n) n) ⟨1, (n : Int) + 1⟩ r ≠ 0) ∧ e = .returned (.tuple #[.pointer (some ⟨p, 0, none⟩), vt, vi]) ∧ Hid (Same w w' ∧ Sat w' (ownT vt (l.take n) * (ownS vi (l.take n) * (shelfAt SH p S * F))))
theorem log_perm (T I S F : HProp) : T * (I * (S * F)) = (T * I) * (S * F) := by ac_rfl
theorem log_perm2 (G T I X : HProp) : G * ((T * I) * X) = T * (G * (I * X)) := by ac_rfl
theorem log_perm3 (G T I X : HProp) : T * (G * (I * X)) = I * (T * (G * X)) := by ac_rfl
theorem log_perm4 (G T I X : HProp) : I * (T * (G * X)) = G * (T * (I * X)) := by ac_rfl
theorem ownT_cells {w : World} {g cap n : Nat} {rs : List (List UInt8)} {I X : HProp} (hn : n = rs.length) (h : Sat w ((ownT (.slice (some ⟨g, 0, none⟩) (n + 1) cap) rs * I) * X)) : w.rangeAt g (0 + n * 4) (tailA (tailK rs n)).toList := by
  subst hn
  rw [star_assoc] at h
  exact (ownT_at h (Nat.le_refl _)).1
set_option maxHeartbeats 4000000 in
set_option maxRecDepth 100000 in
theorem log_any (size : Int) (h1 : 1 ≤ size) (h2 : size ≤ 40) (v : Value) (l : List (List UInt8)) (hll : l.length ≤ 40) (hsz : ∀ r ∈ l, r.length ≤ 9223372036854775807) (F : HProp) (w : World) (hF : Sat w F) (hv : ∀ W, Sat W F → StrsAt W v (l.map strB)) :
    Calls Try.prog 11 #[.int .i64 size, v] w fun e w' => LogOut w F size l e w' := by
  obtain ⟨ao, cap, rfl, hv0⟩ := hv w hF
  rw [List.length_map] at *
  obtain ⟨ti, hti, hz0, hts, hz2⟩ := info_parts infoTail4
  obtain ⟨si, hsi, sz0, sts, sz2⟩ := info_parts infoStr3
  have HTI := Lib.hid (And.intro hti hts)
  have HSI := Lib.hid (And.intro hsi sts)
  have HTB := Lib.hid (And.intro hz0 hz2)
  have HSB := Lib.hid (And.intro sz0 sz2)
  have HNEW := Lib.hid (show ∀ W, Sat W F → _ from fun W h => snew_ok (cfgW size) F W h (cfgW_ok h1 h2) (by rw [cfgW_sectors]; omega))
  have HCF := Lib.hid (fun W => config18_any size (by omega) (by omega) W)
  have HF := Lib.hid hF
  have HV := Lib.hid hv
  have HB := Lib.hid (And.intro h1 (And.intro h2 (And.intro hll hsz)))
  have hl40 : (l.length : Int) ≤ 40 := by omega
  clear hti hz0 hts hz2 hsi sz0 sts sz2 hF hv hv0 h1 h2 hll hsz
  go_enter Try.func11, Try.ntmps11
  go_upto_region 2 with (first
    | (go_at_call 19; refine (HCF.out _).mono ?_; rintro e w1 ⟨rfl, hb1⟩)
    | (go_at_call 18; refine (HNEW.out _ (HF.out.below hb1)).mono ?_; rintro e w2 ⟨p, rfl, h2⟩))
  have H1 := Lib.hid (And.intro (((Same.refl w).below hb1).trans h2.out.1) h2.out.2)
  clear h2 hb1
  go_wp2_with (fail)
  have hst : LgSt w F size l p (.slice (some ⟨w2.heap.size, 0, none⟩) 1 1) (.slice none 0 0) (.int .i64 0) (w2.alloc (.cells #[.int .i64 0, .int .i64 0, .int .i64 0, .int .i64 0] TTail)) :=
    ⟨⟨0, ShelfM.new (cfgW size), Nat.zero_le _, rfl, inv_new HB.out.1 HB.out.2.1, H1.out.1.alloc _, by
      unfold ownT
      refine ownAt_iff.2 (.inr ⟨w2.heap.size, 1, #[.int .i64 0, .int .i64 0, .int .i64 0, .int .i64 0], ⟨rfl, Nat.le_refl _, by decide, rfl, rfl, rfl⟩, ?_⟩)
      have h3 : Sat w2 (ownS (.slice none 0 0) (l.take 0) * (shelfAt SH p (ShelfM.new (cfgW size)) * F)) := by
        unfold ownS
        exact ownAt_nil.2 H1.out.2
      exact h3.alloc (.cells #[.int .i64 0, .int .i64 0, .int .i64 0, .int .i64 0] TTail)⟩⟩
  have HST := Lib.hid hst
  clear hst H1
  generalize w2.alloc (.cells #[.int .i64 0, .int .i64 0, .int .i64 0, .int .i64 0] TTail) = w3 at HST ⊢
  generalize w2.heap.size = T0 at HST ⊢
  go_loopw [9, 10, 11] (fun v9 v10 v11 wr => LgSt w F size l p v9 v10 v11 wr) (fun _ _ v11 _ => l.length + 1 - (intOf v11).toNat)
  case atStart => exact HST.out
  case round =>
    obtain ⟨n, S, hn, rfl, hinv, hsm, hs⟩ := hrel.st
    clear hrel HST
    have hlen : (l.take n).length = n := by rw [List.length_take]; omega
    obtain ⟨g9, c9, hu9, _⟩ := ownT_open hs
    rw [hlen] at hu9
    subst hu9
    obtain ⟨ao10, cp10, rfl⟩ := ownAt_slice hs.right
    have H1 := Lib.hid (And.intro hsm (show Sat wr (((ownT (.slice (some ⟨g9, 0, none⟩) (n + 1) c9) (l.take n) * ownS (.slice ao10 (l.take n).length cp10) (l.take n))) * (shelfAt SH p S * F)) from hs.perm (log_perm _ _ _ _)))
    rw [hlen] at H1
    rw [hlen]
    have HTK := Lib.hid (And.intro hlen.symm hinv)
    have hn40 : (n : Int) ≤ 40 := by omega
    have hwr : IntKind.i64.wrap (n : Int) = (n : Int) := wrap_nat n (by omega)
    have hwr1 : IntKind.i64.wrap ((n : Int) + 1) = (n : Int) + 1 := wrap_nat (n + 1) (by omega)
    clear hsm hs
    by_cases hlt : n < l.length
    · have hltd : decide ((n : Int) < (l.length : Int)) = true := decide_eq_true (by omega)
      obtain ⟨r, hr⟩ : ∃ r, l[n]? = some r := ⟨_, List.getElem?_eq_getElem hlt⟩
      obtain ⟨b0, off, rfl, hcl⟩ : ∃ b0 off, ao = some ⟨b0, off, none⟩ ∧ ∀ W, Sat W F → W.cell? ⟨b0, off + n * 1, none⟩ = some (.string (strB r)) := by
        obtain ⟨_, _, e, h0⟩ := HV.out w HF.out
        obtain ⟨b0, off, e0, _⟩ := h0 (by intro h; rw [List.map_eq_nil_iff] at h; rw [h] at hlt; exact absurd hlt (Nat.not_lt_zero _))
        injection e with e1
        refine ⟨b0, off, e1.trans e0, fun W hW => ?_⟩
        obtain ⟨_, _, e', h0'⟩ := HV.out W hW
        obtain ⟨b1, off1, e1', hc⟩ := h0' (by intro h; rw [List.map_eq_nil_iff] at h; rw [h] at hlt; exact absurd hlt (Nat.not_lt_zero _))
        injection e' with e2
        rw [← e2, e1, e0] at e1'
        cases e1'
        exact hc n (strB r) (by rw [List.getElem?_map, hr]; rfl)
      have HCL := Lib.hid hcl
      have HLT := Lib.hid hlt
      have HR := Lib.hid hr
      have hrl := HB.out.2.2.2 r (List.mem_of_getElem? hr)
      have HTAKE := Lib.hid (show l.take (n + 1) = l.take n ++ [r] from by rw [List.take_add_one, hr]; rfl)
      clear hcl hlt hr
      by_cases hz : appErr (cfgW size) 0 (tailK (l.take n) n) ⟨1, (n : Int) + 1⟩ r = 0
      · have hia := inv_app (r := r) hinv HB.out.1 HB.out.2.1 (by rw [hlen]; omega) (by rw [hlen]; exact hz)
        rw [hlen] at hia
        obtain ⟨S', ha, hinv'⟩ := hia
        have HAP := Lib.hid (fun (X : HProp) (W : World) (h : Sat W (X * (shelfAt SH p S * F))) => app_to ha hrl X W h)
        have HINV := Lib.hid hinv'
        clear hz ha hinv' hrl hinv hlen
        go_upto_region 9 with (fail)
        replace H1 := Lib.hid (And.intro H1.out.1.drew H1.out.2.drew)
        have hS0 := And.intro (ownT_cells HTK.out.1 (H1.out.2)) (HCL.out _ (H1.out.2).right.right)
        refine reg_begin (fun w' => w'.rangeAt g9 (0 + n * 4) (tailA (tailK (l.take n) n)).toList ∧ w'.cell? ⟨b0, off + n * 1, none⟩ = some (.string (strB r))) (by kernel_rfl) ?_
        generalize wr.drew = w5 at H1 hS0 ⊢
        apply reg_cutT (K := fun g w' => Hid (Same w w' ∧ Sat w' (pts g (.cells (tailA (tailK (l.take n ++ [r]) (n + 1))) TTail (0, 0)) * ((ownT (.slice (some ⟨g9, 0, none⟩) (n + 1) c9) (l.take n) * ownS (.slice ao10 n cp10) (l.take n)) * (shelfAt SH p S' * F)))))
        · skip
          (apply reg_take 0 rfl rfl (by decide +kernel) rfl); (rintro w' ⟨h1, h2⟩; go_simp; rfl); exact hS0; simp only [List.setIfInBounds_toArray, List.set_cons_succ, List.set_cons_zero]
          (apply reg_take 1 rfl rfl (by decide +kernel) rfl); (rintro w' ⟨h1, h2⟩; go_simp; rfl); exact hS0; simp only [List.setIfInBounds_toArray, List.set_cons_succ, List.set_cons_zero]
          (apply reg_take 2 rfl rfl (by decide +kernel) rfl); (rintro w' ⟨h1, h2⟩; go_simp; rfl); exact hS0; simp only [List.setIfInBounds_toArray, List.set_cons_succ, List.set_cons_zero]
          (apply reg_take 3 rfl rfl (by decide +kernel) rfl); (rintro w' ⟨h1, h2⟩; go_simp; rfl); exact hS0; simp only [List.setIfInBounds_toArray, List.set_cons_succ, List.set_cons_zero]
          (apply reg_take 4 rfl rfl (by decide +kernel) rfl); (rintro w' ⟨h1, h2⟩; go_simp; rfl); exact hS0; simp only [List.setIfInBounds_toArray, List.set_cons_succ, List.set_cons_zero]
          refine reg_take 5 (v := .pointer (some ⟨g9, 0 + n * 4, none⟩)) rfl rfl (by decide +kernel) rfl (fun w' h => exec_index_slice rfl rfl rfl Try.underlying25 HTI.out.1 HTI.out.2 (Nat.lt_succ_self n)) hS0 ?_; simp only [List.setIfInBounds_toArray, List.set_cons_succ, List.set_cons_zero]
          refine reg_take 6 (v := .agg (tailA (tailK (l.take n) n))) rfl rfl (by decide +kernel) rfl (fun w' h => exec_load_tail rfl rfl h.1) hS0 ?_; simp only [List.setIfInBounds_toArray, List.set_cons_succ, List.set_cons_zero]
          (apply reg_take 7 rfl rfl (by decide +kernel) rfl); (rintro w' ⟨h1, h2⟩; go_simp; rfl); exact hS0; simp only [List.setIfInBounds_toArray, List.set_cons_succ, List.set_cons_zero]
          (apply reg_take 8 rfl rfl (by decide +kernel) rfl); (rintro w' ⟨h1, h2⟩; go_simp; rfl); exact hS0; simp only [List.setIfInBounds_toArray, List.set_cons_succ, List.set_cons_zero]
          (apply reg_take 9 rfl rfl (by decide +kernel) rfl); (rintro w' ⟨h1, h2⟩; go_simp; rfl); exact hS0; simp only [List.setIfInBounds_toArray, List.set_cons_succ, List.set_cons_zero]
          (apply reg_take 10 rfl rfl (by decide +kernel) rfl); (rintro w' ⟨h1, h2⟩; go_simp; rfl); exact hS0; simp only [List.setIfInBounds_toArray, List.set_cons_succ, List.set_cons_zero]
          (apply reg_take 11 rfl rfl (by decide +kernel) rfl); (rintro w' ⟨h1, h2⟩; go_simp; rfl); exact hS0; simp only [List.setIfInBounds_toArray, List.set_cons_succ, List.set_cons_zero]
          refine reg_take 12 (v := .pointer (some ⟨b0, off + n * 1, none⟩)) rfl rfl (by decide +kernel) rfl (fun w' h => exec_index_slice rfl rfl rfl Try.underlying22 HSI.out.1 HSI.out.2 HLT.out) hS0 ?_; simp only [List.setIfInBounds_toArray, List.set_cons_succ, List.set_cons_zero]
          refine reg_take 13 (v := .string (strB r)) rfl rfl (by decide +kernel) rfl (fun w' h => exec_load_cell rfl rfl Try.underlying9 rfl h.2) hS0 ?_; simp only [List.setIfInBounds_toArray, List.set_cons_succ, List.set_cons_zero]
          refine reg_fork 14 18 (by decide +kernel) ?_ ?_
          · refine rstep_call rfl rfl (by decide +kernel) rfl (f := 15) (args := #[.pointer (some ⟨p, 0, none⟩), .int .i64 0, .agg (tailA (tailK (l.take n) n)), .agg (genA ⟨1, (n : Int) + 1⟩), .string (strB r)]) (R := fun v w' => v = .tuple #[.agg (tailA (tailK (l.take n ++ [r]) (n + 1))), .int .i64 0] ∧ Hid (Same w5 w' ∧ Sat w' ((ownT (.slice (some ⟨g9, 0, none⟩) (n + 1) c9) (l.take n) * ownS (.slice ao10 n cp10) (l.take n)) * (shelfAt SH p S' * F)))) (by kernel_rfl) ((HAP.out _ w5 H1.out.2).mono fun e w' h => ⟨_, h.1, rfl, h.2.out.1, h.2.out.2⟩) ?_
            rintro _ w6 ⟨rfl, hx⟩
            replace H1 := Lib.hid (And.intro (H1.out.1.trans hx.out.1) hx.out.2)
            replace hS0 := And.intro (ownT_cells HTK.out.1 (H1.out.2)) (HCL.out _ (H1.out.2).right.right)
            clear hx
            refine ⟨hS0, ?_⟩
            simp only [List.setIfInBounds_toArray, List.set_cons_succ, List.set_cons_zero]
            (apply reg_take 15 rfl rfl (by decide +kernel) rfl); (rintro w' ⟨h1, h2⟩; go_simp; rfl); exact hS0; simp only [List.setIfInBounds_toArray, List.set_cons_succ, List.set_cons_zero]
            (apply reg_take 16 rfl rfl (by decide +kernel) rfl); (rintro w' ⟨h1, h2⟩; go_simp; rfl); exact hS0; simp only [List.setIfInBounds_toArray, List.set_cons_succ, List.set_cons_zero]
            (apply reg_take 17 rfl rfl (by decide +kernel) rfl); (rintro w' ⟨h1, h2⟩; go_simp; rfl); exact hS0; simp only [List.setIfInBounds_toArray, List.set_cons_succ, List.set_cons_zero]
            refine reg_run 18 (.pointer (some ⟨w6.heap.size, 0, none⟩)) (w6.alloc (.cells zTail TTail)) rfl rfl (by decide +kernel) rfl (exec_alloc_zero rfl _ (zeroTail _)) (And.intro (ownT_cells HTK.out.1 ((H1.out.2.alloc (.cells zTail TTail)).right)) (HCL.out _ ((H1.out.2.alloc (.cells zTail TTail)).right).right.right)) ?_; simp only [List.setIfInBounds_toArray, List.set_cons_succ, List.set_cons_zero]
            replace H1 := Lib.hid (And.intro (H1.out.1.alloc (.cells zTail TTail)) (H1.out.2.alloc (.cells zTail TTail)))
            generalize w6.alloc (.cells zTail TTail) = w7 at H1 ⊢
            generalize w6.heap.size = g at H1 ⊢
            replace hS0 := And.intro (ownT_cells HTK.out.1 (H1.out.2.right)) (HCL.out _ (H1.out.2.right).right.right)
            refine reg_store_blk 19 (T := TTail) (old := zTail) (new := tailA (tailK (l.take n ++ [r]) (n + 1))) rfl rfl (by decide +kernel) rfl rfl rfl rfl H1.out.2 (infoTail rfl) rfl (by simp [Value.oneCell']) ?_
            intro w9 h9
            replace H1 := Lib.hid (And.intro (H1.out.1.trans h9.out.1) h9.out.2)
            replace hS0 := And.intro (ownT_cells HTK.out.1 (H1.out.2.right)) (HCL.out _ (H1.out.2.right).right.right)
            clear h9
            refine ⟨hS0, ?_⟩
            (apply reg_take 20 rfl rfl (by decide +kernel) rfl); (rintro w' ⟨h1, h2⟩; go_simp; rfl); exact hS0; simp only [List.setIfInBounds_toArray, List.set_cons_succ, List.set_cons_zero]
            refine reg_done (by decide +kernel) ?_
            exact ⟨g, rfl, H1⟩
          · refine rstep_run (.pointer (some ⟨w5.heap.size, 0, none⟩)) (w5.alloc (.cells zTail TTail)) rfl rfl (by decide +kernel) rfl (exec_alloc_zero rfl _ (zeroTail _)) (And.intro (ownT_cells HTK.out.1 ((H1.out.2.alloc (.cells zTail TTail)).right)) (HCL.out _ ((H1.out.2.alloc (.cells zTail TTail)).right).right.right)) ?_; simp only [List.setIfInBounds_toArray, List.set_cons_succ, List.set_cons_zero]
            replace H1 := Lib.hid (And.intro (H1.out.1.alloc (.cells zTail TTail)) (H1.out.2.alloc (.cells zTail TTail)))
            generalize w5.alloc (.cells zTail TTail) = w6 at H1 ⊢
            generalize w5.heap.size = g at H1 ⊢
            replace hS0 := And.intro (ownT_cells HTK.out.1 (H1.out.2.right)) (HCL.out _ (H1.out.2.right).right.right)
            refine reg_call 14 rfl rfl (by decide +kernel) rfl (f := 15) (args := #[.pointer (some ⟨p, 0, none⟩), .int .i64 0, .agg (tailA (tailK (l.take n) n)), .agg (genA ⟨1, (n : Int) + 1⟩), .string (strB r)]) (R := fun v w' => v = .tuple #[.agg (tailA (tailK (l.take n ++ [r]) (n + 1))), .int .i64 0] ∧ Hid (Same w6 w' ∧ Sat w' (pts g (.cells zTail TTail (0, 0)) * ((ownT (.slice (some ⟨g9, 0, none⟩) (n + 1) c9) (l.take n) * ownS (.slice ao10 n cp10) (l.take n)) * (shelfAt SH p S' * F))))) (by kernel_rfl) ((HAP.out _ w6 (H1.out.2.perm (star_assoc _ _ _).symm)).mono fun e w' h => ⟨_, h.1, rfl, h.2.out.1, h.2.out.2.perm (star_assoc _ _ _)⟩) ?_
            rintro _ w7 ⟨rfl, hx⟩
            replace H1 := Lib.hid (And.intro (H1.out.1.trans hx.out.1) hx.out.2)
            replace hS0 := And.intro (ownT_cells HTK.out.1 (H1.out.2.right)) (HCL.out _ (H1.out.2.right).right.right)
            clear hx
            refine ⟨hS0, ?_⟩
            simp only [List.setIfInBounds_toArray, List.set_cons_succ, List.set_cons_zero]
            (apply reg_take 15 rfl rfl (by decide +kernel) rfl); (rintro w' ⟨h1, h2⟩; go_simp; rfl); exact hS0; simp only [List.setIfInBounds_toArray, List.set_cons_succ, List.set_cons_zero]
            (apply reg_take 16 rfl rfl (by decide +kernel) rfl); (rintro w' ⟨h1, h2⟩; go_simp; rfl); exact hS0; simp only [List.setIfInBounds_toArray, List.set_cons_succ, List.set_cons_zero]
            (apply reg_take 17 rfl rfl (by decide +kernel) rfl); (rintro w' ⟨h1, h2⟩; go_simp; rfl); exact hS0; simp only [List.setIfInBounds_toArray, List.set_cons_succ, List.set_cons_zero]
            refine reg_store_blk 19 (T := TTail) (old := zTail) (new := tailA (tailK (l.take n ++ [r]) (n + 1))) rfl rfl (by decide +kernel) rfl rfl rfl rfl H1.out.2 (infoTail rfl) rfl (by simp [Value.oneCell']) ?_
            intro w9 h9
            replace H1 := Lib.hid (And.intro (H1.out.1.trans h9.out.1) h9.out.2)
            replace hS0 := And.intro (ownT_cells HTK.out.1 (H1.out.2.right)) (HCL.out _ (H1.out.2.right).right.right)
            clear h9
            refine ⟨hS0, ?_⟩
            (apply reg_take 20 rfl rfl (by decide +kernel) rfl); (rintro w' ⟨h1, h2⟩; go_simp; rfl); exact hS0; simp only [List.setIfInBounds_toArray, List.set_cons_succ, List.set_cons_zero]
            refine reg_done (by decide +kernel) ?_
            exact ⟨g, rfl, H1⟩
        intro g w6 H1
        try dsimp only
        obtain ⟨t0, t1, t2, t3, lt⟩ := tail_cells4 H1.out.2
        clear hS0
        go_upto_region 12 with (at_builtin; refine wpList_append_ownAt (F := pts g (.cells (tailA (tailK (l.take n ++ [r]) (n + 1))) TTail (0, 0)) * (ownS (.slice ao10 n cp10) (l.take n) * (shelfAt SH p S' * F))) rfl _ _ 25 TTail rfl ti _ Try.underlying25 HTI.out.1 HTB.out.1 HTI.out.2 HTB.out.2 rfl ((H1.out.2.perm (log_perm2 _ _ _ _)).allocKeep _) (tailA (tailK (l.take n ++ [r]) (n + 1))).toList rfl rfl rfl ?_ (by simp [Value.oneCell']) (by have := HTK.out.1; unfold maxLen; omega) (by have := HTK.out.1; omega) ?_)
        intro v' w7 h7
        have h8 : Sat w7 (ownT v' (l.take n ++ [r]) * (pts g (.cells (tailA (tailK (l.take n ++ [r]) (n + 1))) TTail (0, 0)) * (ownS (.slice ao10 n cp10) (l.take n) * (shelfAt SH p S' * F)))) := by
          rw [← ownT_snoc HTK.out.1]
          exact h7.out.2
        replace H1 := Lib.hid (And.intro ((H1.out.1.alloc _).trans h7.out.1) (h8.perm (log_perm3 _ _ _ _)))
        clear h7 h8 t0 t1 t2 t3 lt
        have hc7 := HCL.out _ H1.out.2.right.right.right.right
        rw [Nat.mul_one] at hc7
        have hlt' := HLT.out
        go_wp2_with (at_builtin; refine wpList_append_ownAt (F := ownT v' (l.take n ++ [r]) * (pts g (.cells (tailA (tailK (l.take n ++ [r]) (n + 1))) TTail (0, 0)) * (shelfAt SH p S' * F))) rfl _ _ 22 TString rfl si _ Try.underlying22 HSI.out.1 HSB.out.1 HSI.out.2 HSB.out.2 rfl (H1.out.2.allocKeep _) [.string (strB r)] rfl rfl rfl ?_ (by simp [Value.oneCell']) (by have := HTK.out.1; unfold maxLen; omega) (by have := HTK.out.1; omega) ?_)
        · intro j u hu
          match j, hu with
          | 0, hu => rw [Addr.add_mid, cells_at (heap_alloc_new _ _)]; simpa using hu
        intro v'' w8 h8
        have h9 : Sat w8 (ownS v'' (l.take n ++ [r]) * (ownT v' (l.take n ++ [r]) * (pts g (.cells (tailA (tailK (l.take n ++ [r]) (n + 1))) TTail (0, 0)) * (shelfAt SH p S' * F)))) := by
          rw [← ownS_snoc, ← HTK.out.1]
          exact h8.out.2
        replace H1 := Lib.hid (And.intro ((H1.out.1.alloc _).trans h8.out.1) h9)
        clear h8 h9
        go_wp2
        go_roundw
        case rel =>
          refine ⟨⟨n + 1, S', hlt', rfl, ?_, H1.out.1, ?_⟩⟩
          · rw [HTAKE.out]; exact HINV.out
          · rw [HTAKE.out]
            exact (H1.out.2.perm (log_perm4 _ _ _ _)).right
        case measure => simp only [intOf]; omega
      · have ha := appM_err (S := S) hinv.fine.cfg hz
        obtain ⟨er, her⟩ : ∃ er, appErr (cfgW size) 0 (tailK (l.take n) n) ⟨1, (n : Int) + 1⟩ r = er := ⟨_, rfl⟩
        rw [her] at ha
        have HE := Lib.hid (And.intro her hz)
        have HAP := Lib.hid (fun (X : HProp) (W : World) (h : Sat W (X * (shelfAt SH p S * F))) => app_to ha hrl X W h)
        have her0 : (er != 0) = true := by simpa [bne, her] using hz
        clear her hz ha hrl hinv hlen
        go_upto_region 9 with (fail)
        replace H1 := Lib.hid (And.intro H1.out.1.drew H1.out.2.drew)
        have hS0 := And.intro (ownT_cells HTK.out.1 (H1.out.2)) (HCL.out _ (H1.out.2).right.right)
        refine reg_begin (fun w' => w'.rangeAt g9 (0 + n * 4) (tailA (tailK (l.take n) n)).toList ∧ w'.cell? ⟨b0, off + n * 1, none⟩ = some (.string (strB r))) (by kernel_rfl) ?_
        generalize wr.drew = w5 at H1 hS0 ⊢
        apply reg_cutT (K := fun g w' => Hid (Same w w' ∧ Sat w' (pts g (.cells (tailA noTail) TTail (0, 0)) * ((ownT (.slice (some ⟨g9, 0, none⟩) (n + 1) c9) (l.take n) * ownS (.slice ao10 n cp10) (l.take n)) * (shelfAt SH p S * F)))))
        · skip
          (apply reg_take 0 rfl rfl (by decide +kernel) rfl); (rintro w' ⟨h1, h2⟩; go_simp; rfl); exact hS0; simp only [List.setIfInBounds_toArray, List.set_cons_succ, List.set_cons_zero]
          (apply reg_take 1 rfl rfl (by decide +kernel) rfl); (rintro w' ⟨h1, h2⟩; go_simp; rfl); exact hS0; simp only [List.setIfInBounds_toArray, List.set_cons_succ, List.set_cons_zero]
          (apply reg_take 2 rfl rfl (by decide +kernel) rfl); (rintro w' ⟨h1, h2⟩; go_simp; rfl); exact hS0; simp only [List.setIfInBounds_toArray, List.set_cons_succ, List.set_cons_zero]
          (apply reg_take 3 rfl rfl (by decide +kernel) rfl); (rintro w' ⟨h1, h2⟩; go_simp; rfl); exact hS0; simp only [List.setIfInBounds_toArray, List.set_cons_succ, List.set_cons_zero]
          (apply reg_take 4 rfl rfl (by decide +kernel) rfl); (rintro w' ⟨h1, h2⟩; go_simp; rfl); exact hS0; simp only [List.setIfInBounds_toArray, List.set_cons_succ, List.set_cons_zero]
          refine reg_take 5 (v := .pointer (some ⟨g9, 0 + n * 4, none⟩)) rfl rfl (by decide +kernel) rfl (fun w' h => exec_index_slice rfl rfl rfl Try.underlying25 HTI.out.1 HTI.out.2 (Nat.lt_succ_self n)) hS0 ?_; simp only [List.setIfInBounds_toArray, List.set_cons_succ, List.set_cons_zero]
          refine reg_take 6 (v := .agg (tailA (tailK (l.take n) n))) rfl rfl (by decide +kernel) rfl (fun w' h => exec_load_tail rfl rfl h.1) hS0 ?_; simp only [List.setIfInBounds_toArray, List.set_cons_succ, List.set_cons_zero]
          (apply reg_take 7 rfl rfl (by decide +kernel) rfl); (rintro w' ⟨h1, h2⟩; go_simp; rfl); exact hS0; simp only [List.setIfInBounds_toArray, List.set_cons_succ, List.set_cons_zero]
          (apply reg_take 8 rfl rfl (by decide +kernel) rfl); (rintro w' ⟨h1, h2⟩; go_simp; rfl); exact hS0; simp only [List.setIfInBounds_toArray, List.set_cons_succ, List.set_cons_zero]
          (apply reg_take 9 rfl rfl (by decide +kernel) rfl); (rintro w' ⟨h1, h2⟩; go_simp; rfl); exact hS0; simp only [List.setIfInBounds_toArray, List.set_cons_succ, List.set_cons_zero]
          (apply reg_take 10 rfl rfl (by decide +kernel) rfl); (rintro w' ⟨h1, h2⟩; go_simp; rfl); exact hS0; simp only [List.setIfInBounds_toArray, List.set_cons_succ, List.set_cons_zero]
          (apply reg_take 11 rfl rfl (by decide +kernel) rfl); (rintro w' ⟨h1, h2⟩; go_simp; rfl); exact hS0; simp only [List.setIfInBounds_toArray, List.set_cons_succ, List.set_cons_zero]
          refine reg_take 12 (v := .pointer (some ⟨b0, off + n * 1, none⟩)) rfl rfl (by decide +kernel) rfl (fun w' h => exec_index_slice rfl rfl rfl Try.underlying22 HSI.out.1 HSI.out.2 HLT.out) hS0 ?_; simp only [List.setIfInBounds_toArray, List.set_cons_succ, List.set_cons_zero]
          refine reg_take 13 (v := .string (strB r)) rfl rfl (by decide +kernel) rfl (fun w' h => exec_load_cell rfl rfl Try.underlying9 rfl h.2) hS0 ?_; simp only [List.setIfInBounds_toArray, List.set_cons_succ, List.set_cons_zero]
          refine reg_fork 14 18 (by decide +kernel) ?_ ?_
          · refine rstep_call rfl rfl (by decide +kernel) rfl (f := 15) (args := #[.pointer (some ⟨p, 0, none⟩), .int .i64 0, .agg (tailA (tailK (l.take n) n)), .agg (genA ⟨1, (n : Int) + 1⟩), .string (strB r)]) (R := fun v w' => v = .tuple #[.agg (tailA noTail), .int .i64 er] ∧ Hid (Same w5 w' ∧ Sat w' ((ownT (.slice (some ⟨g9, 0, none⟩) (n + 1) c9) (l.take n) * ownS (.slice ao10 n cp10) (l.take n)) * (shelfAt SH p S * F)))) (by kernel_rfl) ((HAP.out _ w5 H1.out.2).mono fun e w' h => ⟨_, h.1, rfl, h.2.out.1, h.2.out.2⟩) ?_
            rintro _ w6 ⟨rfl, hx⟩
            replace H1 := Lib.hid (And.intro (H1.out.1.trans hx.out.1) hx.out.2)
            replace hS0 := And.intro (ownT_cells HTK.out.1 (H1.out.2)) (HCL.out _ (H1.out.2).right.right)
            clear hx
            refine ⟨hS0, ?_⟩
            simp only [List.setIfInBounds_toArray, List.set_cons_succ, List.set_cons_zero]
            (apply reg_take 15 rfl rfl (by decide +kernel) rfl); (rintro w' ⟨h1, h2⟩; go_simp; rfl); exact hS0; simp only [List.setIfInBounds_toArray, List.set_cons_succ, List.set_cons_zero]
            (apply reg_take 16 rfl rfl (by decide +kernel) rfl); (rintro w' ⟨h1, h2⟩; go_simp; rfl); exact hS0; simp only [List.setIfInBounds_toArray, List.set_cons_succ, List.set_cons_zero]
            (apply reg_take 17 rfl rfl (by decide +kernel) rfl); (rintro w' ⟨h1, h2⟩; go_simp; rfl); exact hS0; simp only [List.setIfInBounds_toArray, List.set_cons_succ, List.set_cons_zero]
            refine reg_run 18 (.pointer (some ⟨w6.heap.size, 0, none⟩)) (w6.alloc (.cells zTail TTail)) rfl rfl (by decide +kernel) rfl (exec_alloc_zero rfl _ (zeroTail _)) (And.intro (ownT_cells HTK.out.1 ((H1.out.2.alloc (.cells zTail TTail)).right)) (HCL.out _ ((H1.out.2.alloc (.cells zTail TTail)).right).right.right)) ?_; simp only [List.setIfInBounds_toArray, List.set_cons_succ, List.set_cons_zero]
            replace H1 := Lib.hid (And.intro (H1.out.1.alloc (.cells zTail TTail)) (H1.out.2.alloc (.cells zTail TTail)))
            generalize w6.alloc (.cells zTail TTail) = w7 at H1 ⊢
            generalize w6.heap.size = g at H1 ⊢
            replace hS0 := And.intro (ownT_cells HTK.out.1 (H1.out.2.right)) (HCL.out _ (H1.out.2.right).right.right)
            refine reg_store_blk 19 (T := TTail) (old := zTail) (new := tailA noTail) rfl rfl (by decide +kernel) rfl rfl rfl rfl H1.out.2 (infoTail rfl) rfl (by simp [Value.oneCell']) ?_
            intro w9 h9
            replace H1 := Lib.hid (And.intro (H1.out.1.trans h9.out.1) h9.out.2)
            replace hS0 := And.intro (ownT_cells HTK.out.1 (H1.out.2.right)) (HCL.out _ (H1.out.2.right).right.right)
            clear h9
            refine ⟨hS0, ?_⟩
            (apply reg_take 20 rfl rfl (by decide +kernel) rfl); (rintro w' ⟨h1, h2⟩; go_simp; rfl); exact hS0; simp only [List.setIfInBounds_toArray, List.set_cons_succ, List.set_cons_zero]
            refine reg_done (by decide +kernel) ?_
            exact ⟨g, rfl, H1⟩
          · refine rstep_run (.pointer (some ⟨w5.heap.size, 0, none⟩)) (w5.alloc (.cells zTail TTail)) rfl rfl (by decide +kernel) rfl (exec_alloc_zero rfl _ (zeroTail _)) (And.intro (ownT_cells HTK.out.1 ((H1.out.2.alloc (.cells zTail TTail)).right)) (HCL.out _ ((H1.out.2.alloc (.cells zTail TTail)).right).right.right)) ?_; simp only [List.setIfInBounds_toArray, List.set_cons_succ, List.set_cons_zero]
            replace H1 := Lib.hid (And.intro (H1.out.1.alloc (.cells zTail TTail)) (H1.out.2.alloc (.cells zTail TTail)))
            generalize w5.alloc (.cells zTail TTail) = w6 at H1 ⊢
            generalize w5.heap.size = g at H1 ⊢
            replace hS0 := And.intro (ownT_cells HTK.out.1 (H1.out.2.right)) (HCL.out _ (H1.out.2.right).right.right)
            refine reg_call 14 rfl rfl (by decide +kernel) rfl (f := 15) (args := #[.pointer (some ⟨p, 0, none⟩), .int .i64 0, .agg (tailA (tailK (l.take n) n)), .agg (genA ⟨1, (n : Int) + 1⟩), .string (strB r)]) (R := fun v w' => v = .tuple #[.agg (tailA noTail), .int .i64 er] ∧ Hid (Same w6 w' ∧ Sat w' (pts g (.cells zTail TTail (0, 0)) * ((ownT (.slice (some ⟨g9, 0, none⟩) (n + 1) c9) (l.take n) * ownS (.slice ao10 n cp10) (l.take n)) * (shelfAt SH p S * F))))) (by kernel_rfl) ((HAP.out _ w6 (H1.out.2.perm (star_assoc _ _ _).symm)).mono fun e w' h => ⟨_, h.1, rfl, h.2.out.1, h.2.out.2.perm (star_assoc _ _ _)⟩) ?_
            rintro _ w7 ⟨rfl, hx⟩
            replace H1 := Lib.hid (And.intro (H1.out.1.trans hx.out.1) hx.out.2)
            replace hS0 := And.intro (ownT_cells HTK.out.1 (H1.out.2.right)) (HCL.out _ (H1.out.2.right).right.right)
            clear hx
            refine ⟨hS0, ?_⟩
            simp only [List.setIfInBounds_toArray, List.set_cons_succ, List.set_cons_zero]
            (apply reg_take 15 rfl rfl (by decide +kernel) rfl); (rintro w' ⟨h1, h2⟩; go_simp; rfl); exact hS0; simp only [List.setIfInBounds_toArray, List.set_cons_succ, List.set_cons_zero]
            (apply reg_take 16 rfl rfl (by decide +kernel) rfl); (rintro w' ⟨h1, h2⟩; go_simp; rfl); exact hS0; simp only [List.setIfInBounds_toArray, List.set_cons_succ, List.set_cons_zero]
            (apply reg_take 17 rfl rfl (by decide +kernel) rfl); (rintro w' ⟨h1, h2⟩; go_simp; rfl); exact hS0; simp only [List.setIfInBounds_toArray, List.set_cons_succ, List.set_cons_zero]
            refine reg_store_blk 19 (T := TTail) (old := zTail) (new := tailA noTail) rfl rfl (by decide +kernel) rfl rfl rfl rfl H1.out.2 (infoTail rfl) rfl (by simp [Value.oneCell']) ?_
            intro w9 h9
            replace H1 := Lib.hid (And.intro (H1.out.1.trans h9.out.1) h9.out.2)
            replace hS0 := And.intro (ownT_cells HTK.out.1 (H1.out.2.right)) (HCL.out _ (H1.out.2.right).right.right)
            clear h9
            refine ⟨hS0, ?_⟩
            (apply reg_take 20 rfl rfl (by decide +kernel) rfl); (rintro w' ⟨h1, h2⟩; go_simp; rfl); exact hS0; simp only [List.setIfInBounds_toArray, List.set_cons_succ, List.set_cons_zero]
            refine reg_done (by decide +kernel) ?_
            exact ⟨g, rfl, H1⟩
        intro g w6 H1
        try dsimp only
        clear hS0
        go_wp2
        refine bodyPost_ret (v := .tuple #[.pointer (some ⟨p, 0, none⟩), .slice (some ⟨g9, 0, none⟩) (n + 1) c9, .slice ao10 n cp10]) (results3 Try.results11 (.tmp rfl) (.tmp rfl) (.tmp rfl)) rfl ?_
        exact ⟨p, n, S, _, _, hn, HTK.out.2, fun _ r' hr' => (by rw [HR.out] at hr'; cases hr'; rw [HE.out.1]; exact fun h0 => HE.out.2 (HE.out.1.trans h0)), rfl, H1.out.1, H1.out.2.right.perm (log_perm _ _ _ _).symm⟩
    · have hne : n = l.length := by omega
      have hltd : decide ((n : Int) < (l.length : Int)) = false := decide_eq_false (by omega)
      go_wp2
      refine bodyPost_ret (v := .tuple #[.pointer (some ⟨p, 0, none⟩), .slice (some ⟨g9, 0, none⟩) (n + 1) c9, .slice ao10 n cp10]) (results3 Try.results11 (.tmp rfl) (.tmp rfl) (.tmp rfl)) rfl ?_
      exact ⟨p, n, S, _, _, hn, HTK.out.2, fun h => absurd h hlt, rfl, H1.out.1, H1.out.2.perm (log_perm _ _ _ _).symm⟩
end Go.Proofs.Ytbegomjbakidmaa

/- What the laws of 18 share: what they are handed, and how it stays. -/
namespace Go.Proofs.Ytbegomjbakidmaa
open Go.RowKit Go.Sl Go.ChangeMaps

theorem strB_of (s : ByteArray) : ∃ r : List UInt8, strB r = s ∧ r.length = s.size := ⟨s.data.toList, rfl, (strB_size s.data.toList).symm⟩
theorem rd_strs {w : World} {cs : List Value} (h : Rd Try.prog w 22 cs) : ∃ v l, cs = [v] ∧ StrsAt w v (List.map strB l) ∧ l.length ≤ maxLen ∧ ∀ r ∈ l, r.length ≤ 9223372036854775807 := by
  obtain ⟨ao, len, cap, rfl, hm, hc⟩ := Rd.slice (sz := 1) Try.underlying22 (by kernel_rfl) (by decide) h
  by_cases h0 : len = 0
  · subst h0
    exact ⟨_, [], rfl, ⟨ao, cap, rfl, fun h => absurd rfl h⟩, Nat.zero_le _, fun r hr => (by cases hr)⟩
  · obtain ⟨b, off, rfl, hi⟩ := hc (by omega)
    obtain ⟨l, hl, hp⟩ := list_of (p := fun i (r : List UInt8) => w.cell? ⟨b, off + i * 1, none⟩ = some (.string (strB r)) ∧ r.length ≤ 9223372036854775807) len (by
      intro i hlt
      obtain ⟨es, _, hr, hcell⟩ := hi i hlt
      obtain ⟨s, rfl, hs⟩ := Rd.string Try.underlying9 hr
      obtain ⟨r, rfl, hlen⟩ := strB_of s
      exact ⟨r, hcell 0 _ rfl, by rw [hlen]; exact hs⟩)
    subst hl
    refine ⟨_, l, rfl, ⟨some ⟨b, off, none⟩, cap, by rw [List.length_map], fun _ => ⟨b, off, rfl, fun j x hx => ?_⟩⟩, hm, fun r hr => ?_⟩
    · rw [List.getElem?_map] at hx
      cases hj : l[j]? with
      | none => rw [hj] at hx; cases hx
      | some r => rw [hj] at hx; cases hx; exact (hp j r hj).1
    · obtain ⟨j, hj⟩ := List.getElem?_of_mem hr
      exact (hp j r hj).2
theorem StrsAt.keep {w w' : World} {v : Value} {l : List ByteArray} (h : StrsAt w v l) (hk : ∀ k, k < w.heap.size → w'.heap[k]? = w.heap[k]?) : StrsAt w' v l := by
  obtain ⟨ao, cap, rfl, h⟩ := h
  refine ⟨ao, cap, rfl, fun hl => ?_⟩
  obtain ⟨b, off, rfl, hc⟩ := h hl
  refine ⟨b, off, rfl, fun j x hx => ?_⟩
  have h1 := hc j x hx
  have hb : b < w.heap.size := by
    rcases Nat.lt_or_ge b w.heap.size with h2 | h2
    · exact h2
    · simp [World.cell?, Array.getElem?_eq_none h2] at h1
  rw [← h1]
  simp [World.cell?, hk b hb]
theorem StrsAt.old {w w' : World} {v : Value} {l : List ByteArray} {P : HProp} (h : StrsAt w v l) (hs : Sat w' (P * Sl.old w)) : StrsAt w' v l := h.keep hs.of_old
theorem StrsAt.old1 {w w' : World} {v : Value} {l : List ByteArray} (h : StrsAt w v l) (hs : Sat w' (Sl.old w)) : StrsAt w' v l := by
  rw [← emp_star (Sl.old w)] at hs
  exact h.old hs
section
variable {ops : Array Oper} {rest : List Oper} {op : Oper} {a : Act} {w : World} {Q : Exit → Act → World → Prop}
theorem wp_load_tail {t : TailM} {b off : Nat} (hr : w.rangeAt b off (tailA t).toList) (hg : op.guard = none) (x : Operand) (ho : op.op = .load TTail x)
    (hx : a.eval x = .pointer (some ⟨b, off, none⟩)) (k : wpList Try.prog ops Q rest (a.put op.dst (.agg (tailA t))) w) : wpList Try.prog ops Q (op :: rest) a w :=
  wpList_load_mid hg TTail x ho b off hx (tailA t).toList _ hr Try.underlying31 rfl (infoTail rfl) k
end
/-- The sanity of these laws, in a world that holds anything. -/
theorem sanity_old (w0 : World) {X : HProp} (W : World) (h : Sat W (X * old w0)) : Calls Try.prog 10 #[] W fun e w' => e = .returned (.bool true) ∧ Hid (Same W w' ∧ Sat w' (X * old w0)) := sanity18_any _ W h
theorem sumN_take_le (rs : List (List UInt8)) (k : Nat) : sumN (rs.take k) ≤ sumN rs := by
  have h := sumN_nonneg (rs.drop k)
  have e : sumN rs = sumN (rs.take k) + sumN (rs.drop k) := by
    unfold sumN
    rw [← List.sum_append, ← List.map_append, List.take_append_drop]
  omega
theorem trod_rd {H : Type} {enc : TypeId × Value → H} {w : World} {t : TypeId} {v : Value} {d : DataW H} {ps : List MemPlace} (h : DataW.Trod enc Try.prog w 0 (fun _ => true) true t v d ps) : Rd Try.prog w t v.cells.toList := by
  obtain ⟨fuel, h⟩ := h
  exact ⟨H, enc, fuel, d, ps, h⟩
/-- The last of the tails, cell by cell. -/
theorem ownT_c4 {w : World} {g cap : Nat} {rs : List (List UInt8)} {F : HProp} (h : Sat w (ownT (.slice (some ⟨g, 0, none⟩) (rs.length + 1) cap) rs * F)) {k : Nat} (hk : k ≤ rs.length) :
    w.cell? ⟨g, k * 4, none⟩ = some (.int .i64 (tailK rs k).next) ∧ w.cell? ⟨g, k * 4 + 1, none⟩ = some (.int .i64 (tailK rs k).number) ∧ w.cell? ⟨g, k * 4 + 2, none⟩ = some (.int .i64 (tailK rs k).gen.epoch) ∧ w.cell? ⟨g, k * 4 + 3, none⟩ = some (.int .i64 (tailK rs k).gen.count) ∧ g < w.heap.size := by
  obtain ⟨h1, h2⟩ := ownT_at h hk
  rw [Nat.zero_add] at h1
  exact ⟨h1 0 _ rfl, h1 1 _ rfl, h1 2 _ rfl, h1 3 _ rfl, h2⟩
theorem exec_eql_tail {o : Oper} {a : Act} {w : World} {x y : Operand} {nx nu ge gc : Int} (ho : o.op = .binOp .eql TTail x y TTail) (hx : a.eval x = .agg (tailA ⟨nx, nu, ⟨ge, gc⟩⟩)) (hy : a.eval y = .agg (tailA ⟨nx, nu, ⟨ge, gc⟩⟩)) : (execOp a.eval o).run Try.prog w = .ok (.value (.bool true)) w := by
  unfold execOp
  rw [ho]
  simp only [hx, hy, tailA]
  go_simp
theorem one_strs (w : World) (x : ByteArray) : StrsAt (w.alloc (.cells #[.string x] TString)) (.slice (some ⟨w.heap.size, 0, none⟩) 1 1) [x] := by
  refine ⟨_, _, rfl, fun _ => ⟨w.heap.size, 0, rfl, fun j z hz => ?_⟩⟩
  rw [Nat.zero_add, Nat.mul_one, cells_at (heap_alloc_new w _)]
  match j, hz with
  | 0, hz => cases hz; rfl
theorem scan_to {p : Nat} {size : Int} {S : ShelfM} {d : Int} {l : List (List UInt8)} {t1 : TailM} (hf : FineS (cfgW size) S) (h1 : 1 ≤ size) (h2 : size ≤ 40) (hd : 0 ≤ d ∧ d < 2) (hsc : ScanL (conL S d) size.toNat d t0 l t1) (hl : l.length ≤ 100000) (X F : HProp) (W : World) (h : Sat W (X * (shelfAt SH p S * F))) :
    Calls Try.prog 12 #[.pointer (some ⟨p, 0, none⟩), .int .i64 d, .agg (tailA t0)] W fun e w' => ∃ v, e = .returned (.tuple #[v, .agg (tailA t1), .int .i64 0]) ∧ Hid (Same W w' ∧ Sat w' ((ownS v l * X) * (shelfAt SH p S * F))) := by
  have hN : ((size.toNat : Nat) : Int) = logN (cfgW size) := by rw [cfgW_logN h1]; omega
  have h3 := scan_fine (F := X * F) (d := d) hf hN (by show (3 : Int) ≤ size + 3; omega) hd (t := t0) (by decide) hsc hl (h.perm (star_left_comm _ _ _))
  exact h3.mono fun e w' ⟨v, he, hs⟩ => ⟨v, he, hs.out.1, hs.out.2.perm (by ac_rfl)⟩
/-- The first elements of a slice of strings, as the model cuts them. -/
def cutV (ao : Option Addr) (m cap : Nat) : Value := .slice (if cap = 0 then ao else ao.map (·.add (0 * 1))) m cap
theorem slice_his {ao : Option Addr} {n cap m : Nat} (hmc : m ≤ cap) (w : World) : (Instr.sliceAt 22 (.slice ao n cap) none (some (.int .i64 (m : Int))) none).run Try.prog w = .ok (cutV ao m cap) w := by
  obtain ⟨si, hsi, _, sts, _⟩ := info_parts infoStr3
  unfold cutV
  simp [Instr.sliceAt, Instr.slice, run_underlying Try.underlying22, Instr.sliceBounds, Instr.sliceBound, asIntOf, sizeOf, typeInfo, hsi, hmc]
theorem exec_slice_his {o : Oper} {a : Act} {w : World} {x y : Operand} {ao : Option Addr} {n cap m : Nat} (ho : o.op = .slice 22 x none (some y) none) (hx : a.eval x = .slice ao n cap) (hy : a.eval y = .int .i64 (m : Int)) (hmc : m ≤ cap) : (execOp a.eval o).run Try.prog w = .ok (.value (cutV ao m cap)) w :=
  exec_slice_run ho hx (by simp only [Option.map_none, Option.map_some, hy]; exact slice_his hmc w)
theorem StrsAt.cut {w : World} {ao : Option Addr} {n cap m : Nat} {l : List ByteArray} (h : StrsAt w (.slice ao n cap) l) (hk : m ≤ l.length) : StrsAt w (cutV ao m cap) (l.take m) := by
  obtain ⟨ao', cap', e, h0⟩ := h
  injection e with e1 e2 e3
  subst e1 e2 e3
  refine ⟨_, _, by unfold cutV; rw [List.length_take, Nat.min_eq_left hk], fun hne => ?_⟩
  obtain ⟨b, off, rfl, hc⟩ := h0 (by rintro rfl; simp at hne)
  refine ⟨b, off, ?_, fun j x hx => hc j x ?_⟩
  · split
    · rfl
    · simp [Addr.add_mid]
  · rw [List.getElem?_take] at hx
    split at hx
    · exact hx
    · cases hx
end Go.Proofs.Ytbegomjbakidmaa
