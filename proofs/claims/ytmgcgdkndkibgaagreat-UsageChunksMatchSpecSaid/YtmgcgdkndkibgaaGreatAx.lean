/- solventref28.chunks: all chunks of a space, each once, in increasing order. Printed by ax.py. -/
import Derived.Test.YtmgcgdkndkibgaaGreatAm
import Derived.Test.YtmgcgdkndkibgaaGreatCv
namespace Go.Sl
open Go Go.RowKit
section
variable {P : Program} {w : World} {F : HProp}
theorem wpList_append_C {ops : Array Oper} {rest : List Oper} {o : Oper} {a : Act} {Q : Exit → Act → World → Prop} (hg : o.guard = none) (s x : Operand) (t e : TypeId)
    (ho : o.op = .call { callee := .builtin .append, args := #[s, x], argTypes := #[t, t] }) (i : TypeInfo) (z : Value) (ht : P.underlying t = some (.slice e)) (hi : P.info? e = some i) (hz : i.zero = some z) (hsz : i.size = 1) (hby : i.bytes = 8) (hzs : z.cells.size = 1)
    {v : Value} {n : Nat} {xs : List Value} (h : Sat w (ownAt e 1 v n xs * F)) {y : Value} (l : List Int) (hs : a.eval s = v) (hx : a.eval x = y) (hr : IntsC w y l)
    (h63 : n + l.length ≤ maxLen) (hbytes : (n + l.length) * 8 ≤ 140737488355328)
    (k : ∀ v' w', Hid (Same w w' ∧ Sat w' (ownAt e 1 v' (n + l.length) (xs ++ l.map (Value.int .i64)) * F)) → wpList P ops Q rest (a.put o.dst v') w') : wpList P ops Q (o :: rest) a w := by
  obtain ⟨ao, cap, rfl, hcap, h4⟩ := hr
  by_cases hl : l = []
  · subst hl
    have hle : ∃ bo cp, v = .slice bo n cp ∧ n ≤ cp := by
      rcases ownAt_iff.1 h with ⟨rfl, rfl, _, _⟩ | ⟨g, cap, cur, ⟨rfl, h1, _⟩, _⟩
      · exact ⟨_, _, rfl, Nat.le_refl _⟩
      · exact ⟨_, _, rfl, h1⟩
    obtain ⟨bo, cp, rfl, hnc⟩ := hle
    have hrun := run_append_row0 (P := P) (w := w) t o.type e i ht hi bo ao n cp cap hnc
    refine wpList_run hg (v := .slice bo n cp) (w' := w) ?_ (k _ w ⟨Same.refl w, by simpa using h⟩)
    unfold execOp
    simp only [ho, resolve, invoke, builtin, Sem.run_bind, Sem.run_pure, Result.andThen_ok, List.map_toArray, List.map_cons, List.map_nil, hs, hx, hrun, List.length_nil]
  · obtain ⟨b, off, rfl, hc⟩ := h4 hl
    refine wpList_append_ownAt hg s x t e ho i z ht hi hz hsz hby hzs h (l.map (Value.int .i64)) hs hx (by rw [List.length_map, Nat.mul_one]) (fun j u hu => ?_) (fun u hu => ?_) h63 hbytes k
    · rw [List.getElem?_map] at hu
      obtain ⟨z, hz, rfl⟩ := Option.map_eq_some_iff.1 hu
      rw [Addr.add_mid]
      have := hc j z hz
      rwa [Nat.mul_one] at this
    · obtain ⟨z, _, rfl⟩ := List.mem_map.1 hu
      rfl
/-- A row of ints of its own. -/
def ownI (T : TypeId) (v : Value) (l : List Int) : HProp := ownAt T 1 v l.length (l.map (Value.int .i64))
theorem ownI_C {T : TypeId} {v : Value} {l : List Int} (h : Sat w (ownI T v l * F)) : IntsC w v l := by
  unfold ownI at h
  rcases ownAt_iff.1 h with ⟨rfl, h0, _, _⟩ | ⟨g, cap, cur, ⟨rfl, h1, h2, h3, h4, h5⟩, hs⟩
  · exact ⟨none, 0, by rw [h0], by omega, fun hne => absurd (List.eq_nil_of_length_eq_zero h0) hne⟩
  · refine ⟨_, cap, rfl, h1, fun hne => ⟨g, 0, rfl, fun j x hj => ?_⟩⟩
    have hj2 : (l.map (Value.int .i64))[j]? = some (.int .i64 x) := by rw [List.getElem?_map, hj]; rfl
    rw [Nat.zero_add, Nat.mul_one, cells_at hs.block]
    rw [← h4, List.getElem?_take] at hj2
    split at hj2
    · rw [Array.getElem?_toList] at hj2; exact hj2
    · cases hj2
end
end Go.Sl
namespace Go.Proofs.YtmgcgdkndkibgaaGreat
open Go.RowKit Go.Vol Go.Sl

abbrev TI : TypeId := 3
def pairsU (t : Int) (l : List (Nat × Int)) : List (Int × Int) := l.map fun y => (y.2, t)
theorem pairsU_all (x : PartM) : pairsU x.tenant (items x.m) = pairsP x := rfl
theorem chunks_next {P : List (Int × Int)} {t : Int} {l : List (Nat × Int)} {j : Nat} {y : Nat × Int} (h : l[j]? = some y) : chunksF (P ++ pairsU t (l.take (j + 1))) = insI (chunksF (P ++ pairsU t (l.take j))) y.2 := by
  rw [List.take_add_one, h]
  unfold pairsU
  rw [List.map_append, ← List.append_assoc]
  exact chunksF_snoc _ (y.2, t)
theorem chunks_len (L : List PartM) (k j : Nat) (t : Int) (l : List (Nat × Int)) (hL : L.length ≤ 400) (hl : l.length ≤ 4096) : (chunksF (pairsL (L.take k) ++ pairsU t (l.take j))).length ≤ 2000000 := by
  have h1 := (chunksF_ok (pairsL (L.take k) ++ pairsU t (l.take j))).2.2
  have h2 := pairsL_len (L.take k)
  rw [List.length_take] at h2
  rw [List.length_append] at h1
  unfold pairsU at h1 ⊢
  rw [List.length_map, List.length_take] at h1
  omega
theorem info_sz : (Tryz.prog.info? 3).map (·.size) = some 1 := by kernel_rfl
structure ChSt (W : World) (L : List PartM) (v i : Value) (wr : World) : Prop where
  st : ∃ k : Nat, k ≤ L.length ∧ i = .int .i64 (k : Int) ∧ Hid (Same W wr ∧ Sat wr (ownI TI v (chunksF (pairsL (L.take k))) * old W))
structure CiSt (W : World) (P : List (Int × Int)) (t : Int) (l : List (Nat × Int)) (v i : Value) (wr : World) : Prop where
  st : ∃ j : Nat, j ≤ l.length ∧ i = .int .i64 (j : Int) ∧ Hid (Same W wr ∧ Sat wr (ownI TI v (chunksF (P ++ pairsU t (l.take j))) * old W))
structure AhSt (wo : World) (c : Int) (q : List Int) (i : Value) (wr : World) : Prop where
  st : ∃ a : Nat, a ≤ Go.Vol.ahead c q ∧ i = .int .i64 (a : Int) ∧ wr = wo
set_option maxRecDepth 20000 in
set_option maxHeartbeats 8000000 in
theorem rchunks_any {ok : Nat → Prop} (vv vs : Value) (S : SpaceM) (w : World) (hS : RefAt ok w vv vs S) (hwf : S.WF) :
    Calls Tryz.prog 45 #[.agg #[vv, vs]] w fun e w' => ∃ v, e = .returned v ∧ Hid (Below w.heap.size w w' ∧ IntsC w' v (chunksM S)) := by
  obtain ⟨lv, hlv, hrv, hmv⟩ := hS.v
  obtain ⟨ls, hls, hrs, hms⟩ := hS.s
  have hvl := hwf.vlen
  have hsl := hwf.slen
  have e1 : lv.length = S.vols.length := by rw [← hlv, List.length_map]
  have e2 : ls.length = S.snaps.length := by rw [← hls, List.length_map]
  have hb0 := (Below.refl w.heap.size w).alloc (Nat.le_refl _) (.cells #[vv, vs] TRS)
  have HR := Lib.hid (And.intro (hrv.below hb0).rows (hrs.below hb0).rows)
  have HS0 := Lib.hid (fun (W : World) (h : Below w.heap.size w W) => (hrs.below h).rows)
  have HM0 := Lib.hid (And.intro hmv hms)
  have HM := Lib.hid (show ∀ x ∈ lv ++ ls, MapRow ok w x from fun x hx => (List.mem_append.1 hx).elim (hmv x) (hms x))
  have H0 := Lib.hid (And.intro ((Same.refl w).alloc (.cells #[vv, vs] TRS)) ((Sat.old w).alloc (.cells #[vv, vs] TRS)))
  have HL := Lib.hid (And.intro hlv hls)
  clear hS hwf hlv hls hrv hrs hmv hms hb0
  obtain ⟨ti, hti, hz0, hts, hz2⟩ := info_parts info_TP
  have HG := Lib.hid (show chunksM S = chunksF (pairsL (S.vols ++ S.snaps)) by unfold chunksM pairsS pairsL; rw [List.flatMap_append])
  generalize chunksM S = G at HG ⊢
  go_enter Tryz.func45, Tryz.ntmps45
  have HR2 := Lib.hid (And.intro HR.out.1 HR.out.2)
  go_upto_region 3 with (at_builtin; refine wpList_append_rw rfl _ _ TPs TP rfl ti _ Tryz.underlying24 hti hz0 hts hz2 rfl (ownAt_nil.2 H0.out.2) (lv.flatMap rpE) rfl rfl HR2.out.1 (flat_len rpE_len lv) (rp_one (HM0.out.1)) (by unfold maxLen; omega) (by omega) ?_; intro v1 w1 h1)
  simp only [Nat.zero_add, List.nil_append] at h1
  have H1 := Lib.hid (And.intro (H0.out.1.trans h1.out.1) h1.out.2)
  clear h1 H0 HR2
  generalize w.heap.size = A at H1 ⊢
  have c1 : w1.cell? ⟨A, 1, none⟩ = some vs := cells_at H1.out.2.right.block 1
  have HR1 := Lib.hid (HS0.out w1 (H1.out.1.below_of H1.out.2.right))
  go_upto_region 4 with (at_builtin; refine wpList_append_rw rfl _ _ TPs TP rfl ti _ Tryz.underlying24 hti hz0 hts hz2 rfl H1.out.2 (ls.flatMap rpE) rfl rfl HR1.out (flat_len rpE_len ls) (rp_one HM0.out.2) (by unfold maxLen; omega) (by omega) ?_; intro v2 w2 h2)
  rw [← List.flatMap_append] at h2
  have HB := Lib.hid ((H1.out.1.trans h2.out.1).below_of h2.out.2.right)
  have HALL := Lib.hid (all_refL (by rw [List.length_append]) h2.out.2 HB.out HM.out)
  clear H1 HR1 c1 h2
  rw [show (lv ++ ls).map Prod.fst = S.vols ++ S.snaps by rw [List.map_append, HL.out.1, HL.out.2]] at HALL
  obtain ⟨va, vc, rfl, hvc, hvm⟩ := HALL.out.slice
  have hLl : (S.vols ++ S.snaps).length ≤ 400 := by rw [List.length_append]; omega
  generalize S.vols ++ S.snaps = L at HALL hvc hLl HG ⊢
  clear hvm hvc hti hz0 hts hz2 e1 e2 hvl hsl ti
  have H2 := Lib.hid (show Same w2 w2 ∧ Sat w2 (ownI TI (.slice none 0 0) (chunksF (pairsL (L.take 0))) * old w2) from ⟨Same.refl w2, ownAt_nil.2 (Sat.old w2)⟩)
  go_wp2
  go_loopw [4, 5] (fun v i wr => ChSt w2 L v i wr) (fun _ i _ => L.length - (intOf i).toNat)
  case atStart => exact ⟨⟨0, Nat.zero_le _, rfl, H2.out⟩⟩
  case round =>
    obtain ⟨k, hk, rfl, HX⟩ := hrel.st
    clear hrel H2
    obtain ⟨ao, cap, rfl⟩ := ownAt_slice HX.out.2
    have hbw := HX.out.1.below_of HX.out.2
    by_cases hlt : k < L.length
    · have hltd : decide ((k : Int) < (L.length : Int)) = true := decide_eq_true (by omega)
      have hki : (k : Int) ≤ 400 := by omega
      obtain ⟨x, hx⟩ : ∃ x, L[k]? = some x := ⟨_, List.getElem?_eq_getElem hlt⟩
      obtain ⟨g, pa, pc, hva, hg, e0, e1, e2, e3, hrow⟩ := part_at HALL.out hx
      cases hva
      have HT := Lib.hid (show pairsL (L.take (k + 1)) = pairsL (L.take k) ++ pairsU x.tenant (items x.m) from by rw [pairsL_take hx, pairsU_all])
      have hil := items_le x.m
      have HW := Lib.hid (And.intro hrow.rows (And.intro hg e3))
      have hwk : IntKind.i64.wrap ((k : Int) + 1) = (k : Int) + 1 := IntWalk.i64_in _ (by omega)
      clear hx e0 e1 e2 e3 hrow hbw
      generalize x.tenant = ten at HT
      generalize items x.m = l at *
      clear x
      have H3 := Lib.hid (show Same w2 wr ∧ Sat wr (ownI TI (.slice ao (chunksF (pairsL (L.take k))).length cap) (chunksF (pairsL (L.take k) ++ pairsU ten (l.take 0))) * old w2) from ⟨HX.out.1, by simpa [pairsU] using HX.out.2⟩)
      clear HX
      go_upto_region 9 with (fail)
      obtain ⟨wo, rfl⟩ : ∃ wo : World, wo = wr := ⟨_, rfl⟩
      go_loopw [4, 6] (fun v i wr => CiSt w2 (pairsL (L.take k)) ten l v i wr) (fun _ i _ => l.length - (intOf i).toNat)
      case atStart => exact ⟨⟨0, Nat.zero_le _, rfl, H3.out⟩⟩
      case round =>
        clear H3
        obtain ⟨j, hj, rfl, HY⟩ := hrel.st
        clear hrel
        have hql := chunks_len L k j ten l hLl hil
        have hbw := HY.out.1.below_of HY.out.2
        have e3 := (hbw.cell (p := ⟨g, k * 4 + 3, none⟩) HW.out.2.1).trans HW.out.2.2
        by_cases hlt2 : j < l.length
        · have hltd2 : decide ((j : Int) < (l.length : Int)) = true := decide_eq_true (by omega)
          have hji : (j : Int) ≤ 4096 := by omega
          obtain ⟨y, hy⟩ : ∃ y, l[j]? = some y := ⟨_, List.getElem?_eq_getElem hlt2⟩
          obtain ⟨b, rfl, hbl, f0, f1⟩ := ref_cells HW.out.1 hy
          have f1 := (hbw.cell (p := ⟨b, j * 2 + 1, none⟩) hbl).trans f1
          have HNX := Lib.hid (chunks_next (P := pairsL (L.take k)) (t := ten) hy)
          have hwj : IntKind.i64.wrap ((j : Int) + 1) = (j : Int) + 1 := IntWalk.i64_in _ (by omega)
          clear hy f0 hbw
          generalize y.2 = c at *
          generalize chunksF (pairsL (L.take k) ++ pairsU ten (l.take j)) = q at *
          obtain ⟨ao, cap, rfl⟩ := ownAt_slice HY.out.2
          go_upto_region 13 with (fail)
          clear e3 f1
          obtain ⟨wp, rfl⟩ : ∃ wp : World, wp = wr := ⟨_, rfl⟩
          go_loopw [8] (fun i wr => AhSt wp c q i wr) (fun i _ => q.length - (intOf i).toNat)
          case atStart => exact ⟨⟨0, Nat.zero_le _, rfl, rfl⟩⟩
          case round =>
            obtain ⟨a, ha, rfl, rfl⟩ := hrel.st
            clear hrel
            have hal := ahead_le c q
            by_cases hlt3 : a < q.length
            · have hltd3 : decide ((a : Int) < (q.length : Int)) = true := decide_eq_true (by omega)
              have hai : (a : Int) ≤ 2000000 := by omega
              obtain ⟨z, hz⟩ : ∃ z, q[a]? = some z := ⟨_, List.getElem?_eq_getElem hlt3⟩
              obtain ⟨g4, cap4, e4, hc4⟩ := ownAt_cells HY.out.2 (by omega)
              cases e4
              have g1 := hc4 a (.int .i64 z) (by rw [List.getElem?_map, hz]; rfl)
              have hst := ahead_step (n := c) hz ha
              have hwa : IntKind.i64.wrap ((a : Int) + 1) = (a : Int) + 1 := IntWalk.i64_in _ (by omega)
              clear hc4
              by_cases hzc : z < c
              · have hzd : decide (z < c) = true := decide_eq_true hzc
                have HST := Lib.hid (hst.1 hzc)
                clear hst hz hzc
                go_wp2
                go_roundw
                case rel => exact ⟨⟨a + 1, HST.out, rfl, rfl⟩⟩
                case measure => simp only [intOf]; omega
              · have hzd : decide (z < c) = false := decide_eq_false hzc
                have hah := hst.2 hzc
                by_cases hze : z = c
                · subst hze
                  have HST := Lib.hid (show insI q z = q by unfold insI; rw [hah, if_pos hz])
                  clear hst hz hzc hah
                  have hzz : (z == z) = true := beq_self_eq_true z
                  go_wp2
                  go_roundw
                  case rel => exact ⟨⟨j + 1, hlt2, rfl, HY.out.1, by rw [HNX.out, HST.out]; exact HY.out.2⟩⟩
                  case measure => simp only [intOf]; omega
                · have hze2 : (z == c) = false := beq_eq_false_iff_ne.2 hze
                  have HAH := Lib.hid (show Go.Vol.ahead c q = a ∧ ¬ q[a]? = some c from ⟨hah, by rw [hz]; simpa using hze⟩)
                  clear hst hz hzc hah hze
                  go_upto_region 17 with (fail)
                  clear g1 hltd3 hzd hze2 ha
                  obtain ⟨s1, hs1, hi1⟩ := slice_hi (ownI_C HY.out.2) (m := a) (by omega) Tryz.underlying32 info_sz
                  obtain ⟨s2, hs2, hi2⟩ := slice_lo (ownI_C HY.out.2) (m := a) (by omega) Tryz.underlying32 info_sz
                  have HS1 := Lib.hid hi1
                  have HS2 := Lib.hid hi2
                  clear hi1 hi2
                  obtain ⟨ti, hti, hz0, hts, hz2⟩ := info_parts info_i64
                  go_upto_region 18 with (first
                    | ((with_reducible (apply wpList_slice_hi (h := hs1))); rfl; rfl; rfl; rfl)
                    | (at_builtin; refine wpList_append_C rfl _ _ 32 3 rfl ti _ Tryz.underlying32 hti hz0 hts hz2 rfl (ownAt_nil.2 HY.out.2) (q.take a) rfl rfl (HS1.out _ (ownI_C HY.out.2)) (by rw [List.length_take]; unfold maxLen; omega) (by rw [List.length_take]; omega) ?_; intro n1 w1 h1))
                  rw [List.length_take, Nat.min_eq_left (by omega), Nat.zero_add, List.nil_append] at h1
                  obtain ⟨ao1, cap1, rfl⟩ := ownAt_slice h1.out.2
                  go_upto_region 19 with (at_builtin; refine wpList_append_ownAt rfl _ _ 32 3 rfl ti _ Tryz.underlying32 hti hz0 hts hz2 rfl (h1.out.2.allocKeep _) [.int .i64 c] rfl rfl rfl ?_ (by simp [Value.oneCell']) (by unfold maxLen; omega) (by omega) ?_)
                  · intro j u hu
                    match j, hu with
                    | 0, hu => rw [Addr.add_mid, cells_at (heap_alloc_new _ _)]; simpa using hu
                  intro n2 w3 h3
                  obtain ⟨ao2, cap2, rfl⟩ := ownAt_slice h3.out.2
                  go_upto_region 10 with (first
                    | ((with_reducible (apply wpList_slice_lo (h := hs2))); rfl; rfl; rfl; rfl)
                    | (at_builtin; refine wpList_append_C rfl _ _ 32 3 rfl ti _ Tryz.underlying32 hti hz0 hts hz2 rfl h3.out.2 (q.drop a) rfl rfl (HS2.out _ (ownI_C h3.out.2.right)) (by rw [List.length_drop]; unfold maxLen; omega) (by rw [List.length_drop]; omega) ?_; intro n3 w4 h4))
                  have HN := Lib.hid (show Same w2 w4 ∧ Sat w4 (ownI TI n3 (insI q c) * old w2) from by
                    refine ⟨(((HY.out.1.trans h1.out.1).alloc _).trans h3.out.1).trans h4.out.1, ?_⟩
                    have h9 : Sat w4 (ownAt TI 1 n3 _ _ * (ownI TI (.slice (some ⟨g4, 0, none⟩) q.length cap) q * old w2)) := h4.out.2
                    have e9 : insI q c = q.take a ++ c :: q.drop a := by unfold insI; rw [HAH.out.1, if_neg HAH.out.2]
                    have h8 : Sat w4 (ownI TI n3 (insI q c) * (ownI TI (.slice (some ⟨g4, 0, none⟩) q.length cap) q * old w2)) := by
                      rw [e9]
                      unfold ownI
                      have e7 : (q.take a ++ c :: q.drop a).length = a + 1 + (q.drop a).length := by rw [List.length_append, List.length_cons, List.length_take]; omega
                      have e6 : (q.take a ++ c :: q.drop a).map (Value.int .i64) = (q.take a).map (Value.int .i64) ++ [Value.int .i64 c] ++ (q.drop a).map (Value.int .i64) := by simp
                      rw [e7, e6]
                      try simp only [List.map_take] at h9 ⊢
                      exact h9
                    exact Sat.right (P := ownI TI (.slice (some ⟨g4, 0, none⟩) q.length cap) q) (h8.perm (by ac_rfl)))
                  clear hs1 hs2 HS1 HS2 hti hz0 hts hz2 h1 h3 h4
                  go_wp2
                  go_roundw
                  case rel => exact ⟨⟨j + 1, hlt2, rfl, HN.out.1, by rw [HNX.out]; exact HN.out.2⟩⟩
                  case measure => simp only [intOf]; omega
            · obtain rfl : a = q.length := by omega
              have hltd3 : decide ((q.length : Int) < (q.length : Int)) = false := decide_eq_false (by omega)
              have hnlt3 : ¬ (q.length : Int) < (q.length : Int) := by omega
              have HAH := Lib.hid (show Go.Vol.ahead c q = q.length ∧ ¬ q[q.length]? = some c from ⟨by omega, by rw [List.getElem?_eq_none (Nat.le_refl _)]; simp⟩)
              go_upto_region 17 with (fail)
              clear hltd3 hnlt3 ha
              obtain ⟨s1, hs1, hi1⟩ := slice_hi (ownI_C HY.out.2) (m := q.length) (by omega) Tryz.underlying32 info_sz
              obtain ⟨s2, hs2, hi2⟩ := slice_lo (ownI_C HY.out.2) (m := q.length) (by omega) Tryz.underlying32 info_sz
              have HS1 := Lib.hid hi1
              have HS2 := Lib.hid hi2
              clear hi1 hi2
              obtain ⟨ti, hti, hz0, hts, hz2⟩ := info_parts info_i64
              go_upto_region 18 with (first
                | ((with_reducible (apply wpList_slice_hi (h := hs1))); rfl; rfl; rfl; rfl)
                | (at_builtin; refine wpList_append_C rfl _ _ 32 3 rfl ti _ Tryz.underlying32 hti hz0 hts hz2 rfl (ownAt_nil.2 HY.out.2) (q.take q.length) rfl rfl (HS1.out _ (ownI_C HY.out.2)) (by rw [List.length_take]; unfold maxLen; omega) (by rw [List.length_take]; omega) ?_; intro n1 w1 h1))
              rw [List.length_take, Nat.min_eq_left (by omega), Nat.zero_add, List.nil_append] at h1
              obtain ⟨ao1, cap1, rfl⟩ := ownAt_slice h1.out.2
              go_upto_region 19 with (at_builtin; refine wpList_append_ownAt rfl _ _ 32 3 rfl ti _ Tryz.underlying32 hti hz0 hts hz2 rfl (h1.out.2.allocKeep _) [.int .i64 c] rfl rfl rfl ?_ (by simp [Value.oneCell']) (by unfold maxLen; omega) (by omega) ?_)
              · intro j u hu
                match j, hu with
                | 0, hu => rw [Addr.add_mid, cells_at (heap_alloc_new _ _)]; simpa using hu
              intro n2 w3 h3
              obtain ⟨ao2, cap2, rfl⟩ := ownAt_slice h3.out.2
              go_upto_region 10 with (first
                | ((with_reducible (apply wpList_slice_lo (h := hs2))); rfl; rfl; rfl; rfl)
                | (at_builtin; refine wpList_append_C rfl _ _ 32 3 rfl ti _ Tryz.underlying32 hti hz0 hts hz2 rfl h3.out.2 (q.drop q.length) rfl rfl (HS2.out _ (ownI_C h3.out.2.right)) (by rw [List.length_drop]; unfold maxLen; omega) (by rw [List.length_drop]; omega) ?_; intro n3 w4 h4))
              have HN := Lib.hid (show Same w2 w4 ∧ Sat w4 (ownI TI n3 (insI q c) * old w2) from by
                refine ⟨(((HY.out.1.trans h1.out.1).alloc _).trans h3.out.1).trans h4.out.1, ?_⟩
                have h9 : Sat w4 (ownAt TI 1 n3 _ _ * (ownI TI (.slice ao q.length cap) q * old w2)) := h4.out.2
                have e9 : insI q c = q.take q.length ++ c :: q.drop q.length := by unfold insI; rw [HAH.out.1, if_neg HAH.out.2]
                have h8 : Sat w4 (ownI TI n3 (insI q c) * (ownI TI (.slice ao q.length cap) q * old w2)) := by
                  rw [e9]
                  unfold ownI
                  have e7 : (q.take q.length ++ c :: q.drop q.length).length = q.length + 1 + (q.drop q.length).length := by rw [List.length_append, List.length_cons, List.length_take]; omega
                  have e6 : (q.take q.length ++ c :: q.drop q.length).map (Value.int .i64) = (q.take q.length).map (Value.int .i64) ++ [Value.int .i64 c] ++ (q.drop q.length).map (Value.int .i64) := by simp
                  rw [e7, e6]
                  try simp only [List.take_length] at h9 ⊢
                  exact h9
                exact Sat.right (P := ownI TI (.slice ao q.length cap) q) (h8.perm (by ac_rfl)))
              clear hs1 hs2 HS1 HS2 hti hz0 hts hz2 h1 h3 h4
              go_wp2
              go_roundw
              case rel => exact ⟨⟨j + 1, hlt2, rfl, HN.out.1, by rw [HNX.out]; exact HN.out.2⟩⟩
              case measure => simp only [intOf]; omega
        · obtain rfl : j = l.length := by omega
          have hltd2 : decide ((l.length : Int) < (l.length : Int)) = false := decide_eq_false (by omega)
          have hnlt2 : ¬ (l.length : Int) < (l.length : Int) := by omega
          rw [List.take_length, ← HT.out] at HY
          go_wp2
          go_roundw
          case rel => exact ⟨⟨k + 1, hlt, rfl, HY.out⟩⟩
          case measure => simp only [intOf]; omega
    · obtain rfl : k = L.length := by omega
      have hltd : decide ((L.length : Int) < (L.length : Int)) = false := decide_eq_false (by omega)
      have hnlt : ¬ (L.length : Int) < (L.length : Int) := by omega
      have HF := Lib.hid (show IntsC wr (.slice ao (chunksF (pairsL L)).length cap) G from by have h := ownI_C HX.out.2; rw [List.take_length] at h; rw [HG.out]; exact h)
      try simp only [List.take_length]
      clear HX
      go_wp2
      go_ret
      exact ⟨_, rfl, HB.out.trans (hbw.mono HB.out.size), HF.out⟩
end Go.Proofs.YtmgcgdkndkibgaaGreat
