import Derived.Test.YtmcclbiaoeilkaaGreatP03
import Derived.Test.YtmcclbiaoeilkaaGreatP04
import Derived.Deep.Cut
/- Part 5 of a proof; the last part says what is proved. -/
section
namespace Go.Proofs.YtmcclbiaoeilkaaGreat
open Go.RowKit Go.Sl Go.ChangeMaps
theorem info_TS : (Tryz.prog.info? TS).map (fun i => (i.zero, i.size, i.bytes)) = some (some (secV zsec), 64, 64) := by kernel_rfl
theorem madeC (n : Nat) : DurC n (fun _ => zsec) (madeCells (secA zsec) (n * 64)) := by
  intro i hi j u hu
  have hj : j < 64 := by have := (List.getElem?_eq_some_iff.1 hu).1; simpa [secL, zsec] using this
  have hsz : secL zsec = List.replicate 64 (byteV 0) := by rw [secL, zsec, List.map_replicate]
  have hz : ∀ x, x < 64 → (secA zsec)[x]! = byteV 0 := by
    intro x hx
    have : (secA zsec)[x]? = some (byteV 0) := by rw [secA, hsz]; rw [List.getElem?_toArray, List.getElem?_replicate, if_pos hx]
    rw [getElem!_def, this]
  have hu' : u = byteV 0 := by
    change (secL zsec)[j]? = some u at hu
    rw [hsz, List.getElem?_replicate, if_pos hj] at hu
    exact (Option.some.inj hu).symm
  subst hu'
  have hs : (secA zsec).size = 64 := by rw [secA_size]; exact zsec_length
  simp only [madeCells, hs]
  rw [Array.getElem?_map, Array.getElem?_range, if_pos (by omega)]
  rw [Option.map_some, hz _ (Nat.mod_lt _ (by omega))]
theorem new_close (m : Nat) (hm : m ≤ 65536) (F : HProp) (w w' : World) (hF : Sat w F) (hown : w'.ownsRow w.heap.size TS 64 (.slice (some ⟨w.heap.size, 0, none⟩) m m) m (madeCells (secA zsec) (m * 64)).toList) (hg : w.grownBy w' none)
    (D : DiskM) (hD : D = { n := m, dur := fun _ => zsec, cache := fun _ => none, armed := fun _ => none }) :
    Same w (((w'.alloc (.map #[] 0)).alloc (.map #[] 0)).alloc (.cells #[.slice (some ⟨w.heap.size, 0, none⟩) m m, .map (some w'.heap.size), .map (some (w'.heap.size + 1))] TD)) ∧
    Sat (((w'.alloc (.map #[] 0)).alloc (.map #[] 0)).alloc (.cells #[.slice (some ⟨w.heap.size, 0, none⟩) m m, .map (some w'.heap.size), .map (some (w'.heap.size + 1))] TD)) (diskAt TD TS (w'.heap.size + 2) D * F) := by
  subst hD
  have hwf : ({ n := m, dur := fun _ => zsec, cache := fun _ => none, armed := fun _ => none } : DiskM).WF :=
    ⟨fun i h => zsec_length, fun i s h => by simp at h, fun i j h => by simp at h, hm⟩
  have hs0 : Same w w' := ⟨hg.os, hg.tape, hg.output, hg.size⟩
  refine ⟨((hs0.alloc _).alloc _).alloc _, ?_⟩
  obtain ⟨hl, hcase⟩ := hown
  rcases hcase with ⟨h, _⟩ | ⟨g, cap, cur, hv, hbase, hgb, h1, h2, h3, h4⟩
  · cases h
  · simp only [Value.slice.injEq, Option.some.injEq, Addr.mk.injEq, and_true, true_and] at hv
    obtain ⟨rfl, rfl⟩ := hv
    have hcur : cur = madeCells (secA zsec) (m * 64) := by
      apply Array.ext'
      rw [← h4, List.take_of_length_le (by simp [h3])]
    subst hcur
    have hS : Sat w' (pts w.heap.size (.cells (madeCells (secA zsec) (m * 64)) TS (0, 0)) * F) := hF.grow (fun k hk => hg.block k hk (by simp)) hgb
    have hdur : Sat w' (durAt TS m (fun _ => zsec) (.slice (some ⟨w.heap.size, 0, none⟩) m m) * F) := by
      by_cases hm0 : m = 0
      · subst hm0; exact durAt_zero.2 ⟨⟨_, _, rfl⟩, hS.right⟩
      · exact (durAt_iff (by omega)).2 ⟨_, _, _, ⟨rfl, Nat.le_refl _, h3, madeC m⟩, hS⟩
    have h5 := ((hdur.alloc (.map #[] 0)).alloc (.map #[] 0)).alloc (.cells #[.slice (some ⟨w.heap.size, 0, none⟩) m m, .map (some w'.heap.size), .map (some (w'.heap.size + 1))] TD)
    simp only [World.size_alloc] at h5
    exact diskAt_iff.2 ⟨.slice (some ⟨w.heap.size, 0, none⟩) m m, w'.heap.size, w'.heap.size + 1, #[], 0, [], #[], 0, [], ⟨hwf, MapL.empty 0, KvSec.nil, MapL.empty 0, KvInt.nil⟩, h5.perm (by ac_rfl)⟩
set_option maxHeartbeats 400000 in
theorem new_any (n : Int) (F : HProp) (w : World) (hF : Sat w F) :
    Calls Tryz.prog 30 #[.int .i64 n] w fun e w' => ∃ p, e = .returned (.pointer (some ⟨p, 0, none⟩)) ∧ Same w w' ∧ Sat w' (diskAt TD TS p (DiskM.new n) * F) := by
  obtain ⟨i0, hi, hz0, hz1, hz2⟩ := info_parts info_TS
  have hm1 : True := trivial
  have hmm := @run_makeMap Tryz.prog
  by_cases h0 : n < 0
  · have hD : DiskM.new n = { n := 0, dur := fun _ => zsec, cache := fun _ => none, armed := fun _ => none } := by
      unfold DiskM.new; rw [show (min (max n 0) 65536).toNat = 0 by omega]
    have HD := Lib.hid hD
    clear hD
    go_enter Tryz.func30, Tryz.ntmps30
    go_wp2_with (at_make; refine wpList_make_full _ rfl _ _ 127 rfl w.heap.size TS i0 (secV zsec) 64 Tryz.underlying127 hi hz0 hz1 .i64 .i64 _ _ 0 rfl rfl ?_ ?_ ?_ ?_ ?_ ?_)
    all_goals first | rfl | exact hm1 | omega | (rw [hz2]; omega) | (unfold maxLen; omega) | exact Nat.zero_le _ | exact Nat.le_refl _ | skip
    · intro w' hown hg
      have H := new_close 0 (by omega) F w w' hF hown hg _ HD.out
      have H := Lib.hid H
      clear hown hg hF hmm
      have hmm := @run_makeMap Tryz.prog
      go_wp2
      go_ret
      exact ⟨_, rfl, H.out⟩
  · by_cases h1 : n ≤ 65536
    · obtain ⟨k, rfl⟩ := Int.eq_ofNat_of_zero_le (show 0 ≤ n by omega)
      have hD : DiskM.new (k : Int) = { n := k, dur := fun _ => zsec, cache := fun _ => none, armed := fun _ => none } := by
        unfold DiskM.new; rw [show (min (max (k : Int) 0) 65536).toNat = k by omega]
      have HD := Lib.hid hD
      clear hD
      go_enter Tryz.func30, Tryz.ntmps30
      go_wp2_with (at_make; refine wpList_make_full _ rfl _ _ 127 rfl w.heap.size TS i0 (secV zsec) 64 Tryz.underlying127 hi hz0 hz1 .i64 .i64 _ _ k rfl rfl ?_ ?_ ?_ ?_ ?_ ?_)
      all_goals first | rfl | exact hm1 | omega | (rw [hz2]; omega) | (unfold maxLen; omega) | exact Nat.zero_le _ | exact Nat.le_refl _ | skip
      · intro w' hown hg
        have H := new_close k (by omega) F w w' hF hown hg _ HD.out
        have H := Lib.hid H
        clear hown hg hF hmm
        have hmm := @run_makeMap Tryz.prog
        go_wp2
        go_ret
        exact ⟨_, rfl, H.out⟩
    · obtain ⟨m, hm1, hm2⟩ : ∃ m : Nat, (65536 : Int) = (m : Int) ∧ m ≤ 65536 := ⟨65536, by omega, by omega⟩
      have hD : DiskM.new n = { n := m, dur := fun _ => zsec, cache := fun _ => none, armed := fun _ => none } := by
        unfold DiskM.new; rw [show (min (max n 0) 65536).toNat = m by omega]
      have HD := Lib.hid hD
      clear hD
      go_enter Tryz.func30, Tryz.ntmps30
      go_wp2_with (at_make; refine wpList_make_full _ rfl _ _ 127 rfl w.heap.size TS i0 (secV zsec) 64 Tryz.underlying127 hi hz0 hz1 .i64 .i64 _ _ m rfl rfl ?_ ?_ ?_ ?_ ?_ ?_)
      all_goals first | rfl | exact hm1 | omega | (rw [hz2]; omega) | (unfold maxLen; omega) | exact Nat.zero_le _ | exact Nat.le_refl _ | skip
      · intro w' hown hg
        have H := new_close m (by omega) F w w' hF hown hg _ HD.out
        have H := Lib.hid H
        clear hown hg hF hmm
        have hmm := @run_makeMap Tryz.prog
        go_wp2
        go_ret
        exact ⟨_, rfl, H.out⟩
end Go.Proofs.YtmcclbiaoeilkaaGreat
end
section
namespace Go.Proofs.YtmcclbiaoeilkaaGreat
open Go.RowKit Go.Sl Go.ChangeMaps
theorem infoU8 : (Tryz.prog.info? 5).map (·.size) = some 1 := by kernel_rfl
theorem pend_res (D : DiskM) (w w1 : World) (v : Value) (X : HProp) (hX : Sat w X) (hb : Below w.heap.size w w1) (hrow : w1.ownsRow w.heap.size 3 1 v D.pending.length ((D.pending.map Int.ofNat).map (Value.int .i64))) :
    ∃ (R : HProp) (ao : Option Addr) (pc : Nat), v = .slice ao D.pending.length pc ∧ Sat w1 (R * X) ∧ ∀ (w' : World) (Y : HProp) (j i : Nat), Sat w' (R * Y) → D.pending[j]? = some i → ∃ g, ao = some ⟨g, 0, none⟩ ∧ w'.cell? ⟨g, j, none⟩ = some (.int .i64 (i : Int)) := by
  obtain ⟨hlen, hc⟩ := hrow
  rcases hc with ⟨rfl, h0⟩ | ⟨g, cap, cur, rfl, hg, hgb, h1, h2, h3, h4⟩
  · refine ⟨emp, none, 0, by rw [h0], by rw [emp_star]; exact hX.below hb, fun w' Y j i _ hj => ?_⟩
    have := (List.getElem?_eq_some_iff.1 hj).1
    omega
  · refine ⟨pts g (.cells cur 3 (0, 0)), some ⟨g, 0, none⟩, cap, rfl, hX.growAt hb.block hg hgb, fun w' Y j i hS hj => ⟨g, rfl, ?_⟩⟩
    rw [cells_at hS.block]
    have hjl := (List.getElem?_eq_some_iff.1 hj).1
    have h5 : (cur.toList.take (D.pending.length * 1))[j]? = some (.int .i64 (i : Int)) := by
      rw [h4, List.getElem?_map, List.getElem?_map, hj]; rfl
    rw [List.getElem?_take, if_pos (by omega), Array.getElem?_toList] at h5
    exact h5
structure CutSt (w : World) (R F : HProp) (p : Nat) (D : DiskM) (picks : List Int) (i : Value) (wr : World) : Prop where
  st : ∃ k : Nat, k ≤ D.pending.length ∧ i = .int .i64 k ∧ Same w wr ∧ Sat wr (R * (diskAt TD TS p (DiskM.cutN D picks k) * F))
theorem cut_fin {p : Nat} {C C' : DiskM} {X F : HProp} {wr : World} {b cap cb ab : Nat} {es : Array MapEntry} {ck : Nat} {l : KV} {es2 : Array MapEntry} {ck2 : Nat} {l2 : KV} {dc : Array Value} (hn : 0 < C.n) (hn' : C'.n = C.n) (ha : C'.armed = C.armed) (hcap : C.n ≤ cap) (hdc : dc.size = cap * 64)
    (h1 : C'.WF) (h2 : DurC C.n C'.dur dc) (h3 : MapL es ck l) (h4 : KvSec l C'.cache) (h5 : MapL es2 ck2 l2) (h6 : KvInt l2 C.armed)
    (h : Sat wr (pts cb (.map es ck) * (pts p (.cells #[.slice (some ⟨b, 0, none⟩) C.n cap, .map (some cb), .map (some ab)] TD (0, 0)) * (pts b (.cells dc TS (0, 0)) * (pts ab (.map es2 ck2) * (X * F)))))) :
    Sat wr (X * (diskAt TD TS p C' * F)) := by
  have h7 : Sat wr (diskAt TD TS p C' * (X * F)) := by
    rw [← hn'] at h hn hcap h2
    rw [← ha] at h6
    refine diskAt_iff.2 ⟨.slice (some ⟨b, 0, none⟩) C'.n cap, cb, ab, es, ck, l, es2, ck2, l2, ⟨h1, h3, h4, h5, h6⟩, ?_⟩
    exact Sat.perm ((durAt_iff hn).2 ⟨b, cap, dc, ⟨rfl, hcap, hdc, h2⟩, h.perm (show _ = pts b (.cells dc TS (0, 0)) * (pts p (.cells #[.slice (some ⟨b, 0, none⟩) C'.n cap, .map (some cb), .map (some ab)] TD (0, 0)) * (pts cb (.map es ck) * (pts ab (.map es2 ck2) * (X * F)))) from by ac_rfl)⟩) (by ac_rfl)
  exact h7.perm (by ac_rfl)
theorem torn_zero (a b : List UInt8) : DiskM.torn a b 0 = b := by
  have h : DiskM.clamp 0 = 0 := by decide
  unfold DiskM.torn; rw [h]; simp
set_option linter.unusedSimpArgs false in
set_option maxHeartbeats 2000000 in
theorem cut_any (p : Nat) (D : DiskM) (F : HProp) (pv : Value) (picks : List Int) (w : World) (hS : Sat w (diskAt TD TS p D * F)) (hpk : ∀ w', Sat w' F → IntsAt w' pv picks) :
    Calls Tryz.prog 97 #[.pointer (some ⟨p, 0, none⟩), pv] w fun e w' => e = .returned (.tuple #[]) ∧ Same w w' ∧ Sat w' (diskAt TD TS p (D.cut picks) * F) := by
  obtain ⟨pao, pcap, rfl, hpc⟩ := hpk w hS.right
  have hwf := diskAt_wf hS
  have hpend := pending_any p D F w hS
  obtain ⟨ti, hti, hz0, hts, hz2⟩ := info_parts info_TS
  obtain ⟨ti3, hti3, hz03, hts3, hz23⟩ := info_parts (show (Tryz.prog.info? 3).map (fun i => (i.zero, i.size, i.bytes)) = some (some (.int .i64 0), 1, 8) from by kernel_rfl)
  clear hz0 hz2 hz03 hz23
  have HS := Lib.hid hS
  have HW := Lib.hid hwf
  have HPK := Lib.hid hpk
  have hplen : (picks.length : Int) ≤ 9223372036854775807 ∨ True := .inr trivial
  clear hS hwf hpk hpc hplen
  go_enter Tryz.func97, Tryz.ntmps97
  have hlenP : D.pending.length ≤ 65536 := by
    have h1 : D.pending.length ≤ D.n := by unfold DiskM.pending; have := List.length_filter_le (fun i => (D.cache i).isSome) (List.range D.n); simpa using this
    exact Nat.le_trans h1 HW.out.small
  have hpend2 : Calls Tryz.prog 96 #[.pointer (some ⟨p, 0, none⟩)] w fun e w1 => ∃ (R : HProp) (ao : Option Addr) (pc : Nat), e = .returned (.slice ao D.pending.length pc) ∧ Hid (Same w w1 ∧ Sat w1 (R * (diskAt TD TS p D * F)) ∧ ∀ (w' : World) (Y : HProp) (j i : Nat), Sat w' (R * Y) → D.pending[j]? = some i → ∃ g, ao = some ⟨g, 0, none⟩ ∧ w'.cell? ⟨g, j, none⟩ = some (.int .i64 (i : Int))) := by
    refine hpend.mono ?_
    rintro e w1 ⟨v, rfl, hb, hrow, _⟩
    obtain ⟨R, ao, pc, rfl, hS1, hR⟩ := pend_res D w w1 v _ HS.out hb hrow
    exact ⟨R, ao, pc, rfl, Lib.hid ⟨(Same.refl w).below hb, hS1, hR⟩⟩
  clear hpend
  go_wp2_with (go_at_call 96; refine hpend2.mono ?_; rintro e w1 ⟨R, ao, pc, rfl, H1⟩)
  go_loopw [10] (fun i wr => CutSt w R F p D picks i wr) (fun i _ => D.pending.length - (intOf i).toNat)
  case atStart => exact ⟨⟨0, Nat.zero_le _, rfl, H1.out.1, H1.out.2.1⟩⟩
  case round =>
    obtain ⟨k, hk, rfl, hsm, hsat⟩ := hrel.st
    clear hrel
    by_cases hlt : k < D.pending.length
    · have hki : (k : Int) ≤ 65536 := by omega
      have hltd : decide ((k : Int) < (D.pending.length : Int)) = true := decide_eq_true (by omega)
      obtain ⟨i, hi⟩ : ∃ i, D.pending[k]? = some i := ⟨_, List.getElem?_eq_getElem hlt⟩
      obtain ⟨g, rfl, hcell⟩ := H1.out.2.2 wr _ k i hsat hi
      have hwk : (DiskM.cutN D picks k).WF := HW.out.cutN picks k
      obtain ⟨e1, e2, e3, e4⟩ := DiskM.cutN_spec D picks k hk
      have him : i ∈ D.pending := List.mem_of_getElem? hi
      have hnot : i ∉ D.pending.take k := by
        intro hm
        obtain ⟨j, hj⟩ := List.mem_iff_getElem?.1 hm
        rw [List.getElem?_take] at hj
        split at hj
        · have r1 := DiskM.rank_pending D hj
          have r2 := DiskM.rank_pending D hi
          omega
        · cases hj
      obtain ⟨hin, his⟩ : i < D.n ∧ (D.cache i).isSome = true := by
        unfold DiskM.pending at him; rw [List.mem_filter, List.mem_range] at him; exact him
      obtain ⟨s, hs⟩ := Option.isSome_iff_exists.1 his
      have hca : (DiskM.cutN D picks k).cache i = some s := by rw [e3, if_neg hnot, hs]
      have hstep : DiskM.cutN D picks (k + 1) = { DiskM.cutN D picks k with dur := fupd (DiskM.cutN D picks k).dur i (DiskM.torn s ((DiskM.cutN D picks k).dur i) (picks.getD k 0)), cache := fupd (DiskM.cutN D picks k).cache i none } := by
        show DiskM.cutStep (DiskM.cutN D picks k) (D.pending.getD k 0) (picks.getD k 0) = _
        rw [show D.pending.getD k 0 = i by rw [List.getD_eq_getElem?_getD, hi]; rfl]
        unfold DiskM.cutStep; rw [hca]
      have hwk1 : (DiskM.cutN D picks (k + 1)).WF := HW.out.cutN picks (k + 1)
      rw [hstep] at hwk1
      generalize hC : DiskM.cutN D picks k = C at hsat hwk e1 e2 e3 e4 hca hstep hwk1
      have hn : 0 < D.n := by omega
      rw [← e1] at hn hin
      have hsd := hsat.perm (show _ = diskAt TD TS p C * (R * F) from by ac_rfl)
      obtain ⟨v, cb, ab, es, ck, l, es2, ck2, l2, ⟨hwf, hM, hK, hM2, hK2⟩, hsd⟩ := diskAt_iff.1 hsd
      have hsl := (hwf.cache i s hca).2
      have hsb := hsd.perm (show _ = durAt TS C.n C.dur v * (pts p (.cells #[v, .map (some cb), .map (some ab)] TD (0, 0)) * (pts cb (.map es ck) * (pts ab (.map es2 ck2) * (R * F)))) from by ac_rfl)
      obtain ⟨b, cap, dc, ⟨rfl, hcap, hdc, hD⟩, hsb⟩ := (durAt_iff hn).1 hsb
      obtain ⟨q0, q1, q2⟩ := disk_cells hsd
      have hlkk := hK (i : Int)
      rw [if_pos (by omega), Int.toNat_natCast, hca] at hlkk
      have hl0 := run_lookup_at (P := Tryz.prog) (w := wr) Tryz.underlying128 Tryz.underlying3 (zeroTS wr) (hsb.right.right).block hM (i : Int)
      rw [hlkk] at hl0
      simp only [Option.map_some, Option.getD_some] at hl0
      obtain ⟨pao', pcap', hpe, hpcs⟩ := HPK.out wr hsat.right.right
      injection hpe with hp1 hp2 hp3
      subst hp1 hp3
      have HD := Lib.hid hD
      have HM := Lib.hid hM
      have HK := Lib.hid hK
      have HM2 := Lib.hid hM2
      have HK2 := Lib.hid hK2
      have HWF := Lib.hid hwf
      have HW1 := Lib.hid hwk1
      have HSTEP := Lib.hid hstep
      have HSM := Lib.hid hsm
      have HSB := Lib.hid hsb
      have HCS := Lib.hid hpcs
      have HSL := Lib.hid hsl
      have HI := Lib.hid (show i < C.n ∧ 0 < C.n ∧ k < D.pending.length from ⟨hin, hn, hlt⟩)
      have HCC := Lib.hid hC
      clear hC hD hM hK hM2 hK2 hwf hwk hwk1 hstep hsm hsat hsd hsb hpcs hlkk hca hs his him hnot e1 e2 e3 e4 hi
      by_cases hpk : k < picks.length
      · have hpd : decide ((k : Int) < (picks.length : Int)) = true := decide_eq_true (by omega)
        obtain ⟨x, hx⟩ : ∃ x, picks[k]? = some x := ⟨_, List.getElem?_eq_getElem hpk⟩
        obtain ⟨pb, poff, rfl, hpx⟩ := HCS.out (by rintro rfl; simp at hpk)
        have hpcell := hpx k x hx
        have hc := DiskM.clamp_le x
        have hgd : picks.getD k 0 = x := by rw [List.getD_eq_getElem?_getD, hx]; rfl
        have hplt := HSB.out.right.lt
        have hpblt := World.block_lt_of_cell? _ _ hpcell
        clear hpx hx
        go_wp2_with (first
          | ((with_reducible (apply wpList_lookup_run (h := hl0))); rfl; rfl; rfl; rfl)
          | ((with_reducible (refine wpList_alloc_zero ?_ TS ?_ _ (zeroTS _) ?_)); rfl; rfl)
          | ((with_reducible (apply wp_store_sec zsec_length hsl)); rfl; rfl; rfl; rfl))
        clear hl0
        have hs2 := HSB.out.alloc (.cells (secA s) TS)
        have hsm2 := HSM.out.alloc (.cells (secA s) TS)
        have hpc2 : (wr.alloc (.cells (secA s) TS)).cell? ⟨pb, poff + k * 1, none⟩ = some (.int .i64 x) := by rw [World.cell?_alloc_lt _ _ _ hpblt]; exact hpcell
        generalize wr.alloc (.cells (secA s) TS) = w2 at hs2 hsm2 hpc2 ⊢
        generalize wr.heap.size = N at hs2 ⊢
        have hrow : ∀ j u, (secL (s.take (DiskM.clamp x)))[j]? = some u → w2.cell? ((⟨N, 0, none⟩ : Addr).add j) = some u := by
          intro j u hu
          rw [Addr.add_mid, cells_at hs2.block, Nat.zero_add]
          unfold secL at hu
          rw [List.map_take, List.getElem?_take] at hu
          split at hu
          · rw [← hu]; simp [secA, secL]
          · cases hu
        have hsb := hs2.right
        obtain ⟨q0, q1, q2⟩ := disk_cells (hsb.perm (show _ = pts p (.cells #[.slice (some ⟨b, 0, none⟩) C.n cap, .map (some cb), .map (some ab)] TD (0, 0)) * (pts b (.cells dc TS (0, 0)) * (pts cb (.map es ck) * (pts ab (.map es2 ck2) * (R * F)))) from by ac_rfl))
        have hth : w2.drew.there b (0 + i * 64) (DiskM.clamp x) := fun j hj => durC_there hsb.drew.block hdc hcap hin j (by omega)
        have hvl : (secL (s.take (DiskM.clamp x))).length = DiskM.clamp x := by rw [secL_length, List.length_take, hsl]; omega
        have hcl : ((DiskM.clamp x : Nat) : Int) = min (max x 0) 64 := by unfold DiskM.clamp; omega
        have hS0 : w2.drew.cell? ⟨p, 0, none⟩ = some (.slice (some ⟨b, 0, none⟩) C.n cap) ∧ w2.drew.cell? ⟨pb, poff + k * 1, none⟩ = some (.int .i64 x) := ⟨q0, hpc2⟩
        refine reg_begin (fun w' => w'.cell? ⟨p, 0, none⟩ = some (.slice (some ⟨b, 0, none⟩) C.n cap) ∧ w'.cell? ⟨pb, poff + k * 1, none⟩ = some (.int .i64 x)) (by kernel_rfl) ?_
        (apply reg_take 0 rfl rfl (by decide +kernel) rfl); (rintro w' ⟨h1, _⟩; go_simp; rfl); exact hS0; simp only [List.setIfInBounds_toArray, List.set_cons_succ, List.set_cons_zero]
        (apply reg_take 1 rfl rfl (by decide +kernel) rfl); (rintro w' ⟨h1, _⟩; go_simp; rfl); exact hS0; simp only [List.setIfInBounds_toArray, List.set_cons_succ, List.set_cons_zero]
        (apply reg_take 2 rfl rfl (by decide +kernel) rfl); (rintro w' ⟨h1, _⟩; go_simp; rfl); exact hS0; simp only [List.setIfInBounds_toArray, List.set_cons_succ, List.set_cons_zero]
        (apply reg_take 3 rfl rfl (by decide +kernel) rfl); (rintro w' ⟨h1, _⟩; go_simp; rfl); exact hS0; simp only [List.setIfInBounds_toArray, List.set_cons_succ, List.set_cons_zero]
        (apply reg_take 4 rfl rfl (by decide +kernel) rfl); (rintro w' ⟨h1, _⟩; go_simp; rfl); exact hS0; simp only [List.setIfInBounds_toArray, List.set_cons_succ, List.set_cons_zero]
        refine reg_take 5 (v := .pointer (some ⟨b, 0 + i * 64, none⟩)) rfl rfl (by decide +kernel) rfl (fun _ _ => exec_index_slice rfl rfl rfl Tryz.underlying127 hti hts hin) hS0 ?_; simp only [List.setIfInBounds_toArray, List.set_cons_succ, List.set_cons_zero]
        refine reg_take 6 (v := .slice (some ⟨b, 0 + i * 64, none⟩) 64 64) rfl rfl (by decide +kernel) rfl (fun _ _ => exec_slice_all rfl rfl Tryz.underlying153 infoU8) hS0 ?_; simp only [List.setIfInBounds_toArray, List.set_cons_succ, List.set_cons_zero]
        (apply reg_take 7 rfl rfl (by decide +kernel) rfl); (rintro w' ⟨h1, _⟩; go_simp; rfl); exact hS0; simp only [List.setIfInBounds_toArray, List.set_cons_succ, List.set_cons_zero]
        (apply reg_take 8 rfl rfl (by decide +kernel) rfl); (rintro w' ⟨h1, _⟩; go_simp; rfl); exact hS0; simp only [List.setIfInBounds_toArray, List.set_cons_succ, List.set_cons_zero]
        refine reg_take 9 (v := .pointer (some ⟨pb, poff + k * 1, none⟩)) rfl rfl (by decide +kernel) rfl (fun _ _ => exec_index_slice rfl rfl rfl Tryz.underlying38 hti3 hts3 hpk) hS0 ?_; simp only [List.setIfInBounds_toArray, List.set_cons_succ, List.set_cons_zero]
        refine reg_take 10 (v := .int .i64 x) rfl rfl (by decide +kernel) rfl (fun _ h => exec_load_cell rfl rfl Tryz.underlying3 rfl h.2) hS0 ?_; simp only [List.setIfInBounds_toArray, List.set_cons_succ, List.set_cons_zero]
        refine reg_run 11 (.int .i64 (max x 0)) (w2.drew) rfl rfl (by decide +kernel) rfl (exec_max rfl rfl rfl) (hS0) ?_; simp only [List.setIfInBounds_toArray, List.set_cons_succ, List.set_cons_zero]
        refine reg_run 12 (.int .i64 ((DiskM.clamp x : Nat) : Int)) (w2.drew) rfl rfl (by decide +kernel) rfl (by rw [hcl]; exact exec_min rfl rfl rfl) (hS0) ?_; simp only [List.setIfInBounds_toArray, List.set_cons_succ, List.set_cons_zero]
        refine reg_take 13 (v := .slice (some ⟨N, 0, none⟩) (DiskM.clamp x) 64) rfl rfl (by decide +kernel) rfl (fun _ _ => exec_slice_to rfl rfl rfl Tryz.underlying153 infoU8 hc) hS0 ?_; simp only [List.setIfInBounds_toArray, List.set_cons_succ, List.set_cons_zero]
        refine reg_run_last 14 (.int .i64 ((DiskM.clamp x : Nat) : Int)) (w2.drew.setCells b (0 + i * 64) (secL (s.take (DiskM.clamp x)))) rfl rfl (by decide +kernel) rfl (exec_copy rfl rfl rfl Tryz.underlying69 infoU8 (by omega) hvl hrow hth secL_one) ?_; simp only [List.setIfInBounds_toArray, List.set_cons_succ, List.set_cons_zero]
        have hs3 := Sat.setCells (secL (s.take (DiskM.clamp x))) (o := 0 + i * 64) hsb.drew
        have hsm3 := Same.setCells (b := b) (secL (s.take (DiskM.clamp x))) (o := 0 + i * 64) hsm2.drew
        generalize w2.drew.setCells b (0 + i * 64) (secL (s.take (DiskM.clamp x))) = w3 at hs3 hsm3 ⊢
        clear hrow hth hsb hs2 hsm2 hS0 q0 q1 q2 hpc2 hpcell
        have hscb := hs3.perm (show _ = pts cb (.map es ck) * (pts p (.cells #[.slice (some ⟨b, 0, none⟩) C.n cap, .map (some cb), .map (some ab)] TD (0, 0)) * (pts b (.cells (putL dc (0 + i * 64) (secL (s.take (DiskM.clamp x)))) TS (0, 0)) * (pts ab (.map es2 ck2) * (R * F)))) from by ac_rfl)
        obtain ⟨q0, q1, q2⟩ := disk_cells hscb.right
        obtain ⟨es3, ck3, hrun, hM3⟩ := run_delete_kv (P := Tryz.prog) Tryz.underlying128 Tryz.underlying3 hscb.block HM.out (i : Int)
        have hs4 := hscb.setBlock (o' := .map es3 ck3)
        have hsm4 := hsm3.setBlock (r := cb) (.map es3 ck3)
        have HS3 := Lib.hid hs4
        have HSM3 := Lib.hid hsm4
        have HM3 := Lib.hid hM3
        have HGD := Lib.hid hgd
        clear hs3 hs4 hsm3 hsm4 hM3 hscb hgd hvl hcl hplt hpblt
        go_wp2_with ((with_reducible (apply wpList_delete_run (hrun := hrun))); rfl; rfl; rfl; rfl)
        go_roundw
        case rel =>
          refine ⟨⟨k + 1, HI.out.2.2, rfl, HSM3.out, ?_⟩⟩
          rw [HSTEP.out]
          have hW1 := HW1.out
          have hDT := durC_torn HD.out hdc hcap HWF.out.dur HI.out.1 HSL.out hc
          have h3 := HS3.out
          rw [Nat.zero_add] at h3
          rw [HGD.out] at hW1 ⊢
          exact cut_fin HI.out.2.1 rfl rfl hcap (by rw [putL_size]; exact hdc) hW1 hDT HM3.out (HK.out.del HM.out.nodup (by omega)) HM2.out HK2.out h3
        case measure =>
          have := HI.out.2.2
          simp only [intOf]; omega
      · have hpd : decide ((k : Int) < (picks.length : Int)) = false := decide_eq_false (by omega)
        have hscb := HSB.out.perm (show _ = pts cb (.map es ck) * (pts p (.cells #[.slice (some ⟨b, 0, none⟩) C.n cap, .map (some cb), .map (some ab)] TD (0, 0)) * (pts b (.cells dc TS (0, 0)) * (pts ab (.map es2 ck2) * (R * F)))) from by ac_rfl)
        obtain ⟨es3, ck3, hrun, hM3⟩ := run_delete_kv (P := Tryz.prog) Tryz.underlying128 Tryz.underlying3 hscb.block HM.out (i : Int)
        have hs3 := hscb.setBlock (o' := .map es3 ck3)
        have hsm3 := HSM.out.setBlock (r := cb) (.map es3 ck3)
        have HS3 := Lib.hid hs3
        have HSM3 := Lib.hid hsm3
        have HM3 := Lib.hid hM3
        clear hs3 hsm3 hM3 hscb hl0
        go_wp2_with ((with_reducible (apply wpList_delete_run (hrun := hrun))); rfl; rfl; rfl; rfl)
        go_roundw
        case rel =>
          refine ⟨⟨k + 1, HI.out.2.2, rfl, HSM3.out, ?_⟩⟩
          rw [HSTEP.out]
          have hp0 : picks.getD k 0 = 0 := by rw [List.getD_eq_getElem?_getD, List.getElem?_eq_none (by omega)]; rfl
          have hW1 := HW1.out
          rw [hp0, torn_zero, fupd_self rfl] at hW1 ⊢
          exact cut_fin HI.out.2.1 rfl rfl hcap hdc hW1 HD.out HM3.out (HK.out.del HM.out.nodup (by omega)) HM2.out HK2.out HS3.out
        case measure =>
          have := HI.out.2.2
          simp only [intOf]; omega
    · have hke : k = D.pending.length := by omega
      subst hke
      have hsd := hsat.perm (show _ = diskAt TD TS p (DiskM.cutN D picks D.pending.length) * (R * F) from by ac_rfl)
      obtain ⟨v, cb, ab, es, ck, l, es2, ck2, l2, ⟨hwf, hM, hK, hM2, hK2⟩, hs⟩ := diskAt_iff.1 hsd
      obtain ⟨q0, q1, q2⟩ := disk_cells hs
      have hab := hs.perm (show _ = pts ab (.map es2 ck2) * (pts p (.cells #[v, .map (some cb), .map (some ab)] TD (0, 0)) * (durAt TS (DiskM.cutN D picks D.pending.length).n (DiskM.cutN D picks D.pending.length).dur v * (pts cb (.map es ck) * (R * F)))) from by ac_rfl)
      have hcl := run_clear_kv (P := Tryz.prog) (w := wr) Tryz.underlying90 hab.block
      have hfin : Sat (setBlock wr ab (.map #[] ck2)) (diskAt TD TS p (D.cut picks) * F) := by
        have h4 := hab.setBlock (o' := .map #[] ck2)
        rw [← DiskM.cutN_all D HW.out picks]
        refine (diskAt_iff.2 ⟨v, cb, ab, es, ck, l, #[], ck2, [], ⟨?_, hM, hK, MapL.empty ck2, KvInt.nil⟩, h4.perm (show _ = pts p (.cells #[v, .map (some cb), .map (some ab)] TD (0, 0)) * (durAt TS (DiskM.cutN D picks D.pending.length).n (DiskM.cutN D picks D.pending.length).dur v * (pts cb (.map es ck) * (pts ab (.map #[] ck2) * (R * F)))) from by ac_rfl)⟩ : Sat _ (diskAt TD TS p { DiskM.cutN D picks D.pending.length with armed := fun _ => none } * (R * F))).perm (show _ = R * (diskAt TD TS p { DiskM.cutN D picks D.pending.length with armed := fun _ => none } * F) from by ac_rfl) |>.right
        rw [DiskM.cutN_all D HW.out picks]; exact HW.out.cut picks
      have HF := Lib.hid hfin
      have HSM := Lib.hid hsm
      clear hfin hab hs hsd hsat hsm hM hK hM2 hK2 hwf
      have hge : decide ((D.pending.length : Int) < (D.pending.length : Int)) = false := decide_eq_false (by omega)
      go_wp2_with ((with_reducible (apply wpList_clear_run (hrun := hcl))); rfl; rfl; rfl)
      go_end0
      exact ⟨rfl, HSM.out.setBlock _, HF.out⟩
end Go.Proofs.YtmcclbiaoeilkaaGreat
end
