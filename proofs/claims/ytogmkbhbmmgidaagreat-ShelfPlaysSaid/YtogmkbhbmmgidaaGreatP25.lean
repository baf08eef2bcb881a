import Derived.Test.YtogmkbhbmmgidaaGreatP24
import Derived.Test.YtogmkbhbmmgidaaGreatP22
/- Part 25 of a proof; the last part says what is proved. -/
section
namespace Go.Sl
open Go Go.RowKit
theorem flush_cutN {D : DiskM} (h : D.WF) (picks : List Int) (hp : ∀ k, k < D.pending.length → picks.getD k 0 = 64) : DiskM.cutN D picks D.pending.length = D.flush := by
  obtain ⟨h1, h2, h3, h4⟩ := DiskM.cutN_spec D picks D.pending.length (Nat.le_refl _)
  rw [List.take_length] at h3 h4
  have hno : ∀ i, i ∉ D.pending → D.cache i = none := by
    intro i hi
    cases hc : D.cache i with
    | none => rfl
    | some s =>
      refine absurd ?_ hi
      unfold DiskM.pending
      rw [List.mem_filter, List.mem_range]
      exact ⟨(h.cache i s hc).1, by rw [hc]; rfl⟩
  have hd : (DiskM.cutN D picks D.pending.length).dur = D.flush.dur := by
    funext i
    rw [h4]
    show _ = D.content i
    unfold DiskM.content
    by_cases hi : i ∈ D.pending
    · rw [if_pos hi]
      obtain ⟨j, hj⟩ := List.mem_iff_getElem?.1 hi
      rw [DiskM.rank_pending D hj, hp j (List.getElem?_eq_some_iff.1 hj).1]
      have hm := hi
      unfold DiskM.pending at hm
      rw [List.mem_filter] at hm
      obtain ⟨s, hs⟩ := Option.isSome_iff_exists.1 hm.2
      have hl := h.cache i s hs
      have hdl := h.dur i hl.1
      rw [hs]
      show s.take 64 ++ (D.dur i).drop 64 = s
      rw [List.take_of_length_le (by omega), List.drop_of_length_le (by omega), List.append_nil]
    · rw [if_neg hi, hno i hi]; rfl
  have hc : (DiskM.cutN D picks D.pending.length).cache = D.flush.cache := by
    funext i
    rw [h3]
    show _ = none
    by_cases hi : i ∈ D.pending
    · rw [if_pos hi]
    · rw [if_neg hi, hno i hi]
  have ha : (DiskM.cutN D picks D.pending.length).armed = D.flush.armed := h2
  have hn : (DiskM.cutN D picks D.pending.length).n = D.flush.n := h1
  cases hx : DiskM.cutN D picks D.pending.length
  rw [hx] at hd hc ha hn
  cases hy : D.flush
  rw [hy] at hd hc ha hn
  simp only at hd hc ha hn
  subst hd hc ha hn
  rfl
def armK (C : DiskM) (k : Nat) : DiskM := { C with armed := fun i => if i < k then none else C.armed i }
theorem armK_zero (C : DiskM) : armK C 0 = C := by
  unfold armK
  simp
theorem armK_succ (C : DiskM) (k : Nat) : { armK C k with armed := fupd (armK C k).armed k none } = armK C (k + 1) := by
  show (⟨C.n, C.dur, C.cache, fupd (fun i => if i < k then none else C.armed i) k none⟩ : DiskM) = ⟨C.n, C.dur, C.cache, fun i => if i < k + 1 then none else C.armed i⟩
  congr 1
  funext i
  unfold fupd
  by_cases h : i = k
  · rw [if_pos h, if_pos (by omega)]
  · rw [if_neg h]
    show (if i < k then none else C.armed i) = if i < k + 1 then none else C.armed i
    by_cases h2 : i < k
    · rw [if_pos h2, if_pos (by omega)]
    · rw [if_neg h2, if_neg (by omega)]
theorem armK_all {C : DiskM} (h : C.WF) : armK C C.n = { C with armed := fun _ => none } := by
  unfold armK
  congr 1
  funext i
  by_cases h2 : i < C.n
  · rw [if_pos h2]
  · rw [if_neg h2]
    cases hc : C.armed i with
    | none => rfl
    | some j => exact absurd (h.armed i j hc).1 h2
end Go.Sl
namespace Go.Proofs.YtogmkbhbmmgidaaGreat
open Go.RowKit Go.Sl Go.ChangeMaps
structure FlSt (w : World) (g n : Nat) (X : HProp) (i : Value) (wr : World) : Prop where
  st : ∃ (k : Nat) (cur : Array Value), k ≤ n ∧ i = .int .i64 (k : Int) ∧ cur.size = n ∧ (∀ j, j < k → cur[j]? = some (.int .i64 64)) ∧ Hid (Same w wr ∧ Sat wr (pts g (.cells cur TIn (0, 0)) * X))
set_option maxRecDepth 20000 in
set_option maxHeartbeats 4000000 in
theorem rflush_any (p : Nat) (D : DiskM) (F : HProp) (w : World) (hS : Sat w (refD RT p D * F)) :
    Calls Tryz.prog 86 #[.pointer (some ⟨p, 0, none⟩)] w fun e w' => e = .returned (.tuple #[]) ∧ Hid (Same w w' ∧ Sat w' (refD RT p D.flush * F)) := by
  obtain ⟨v, L, ⟨hwf, hr⟩, hs⟩ := refD_iff.1 hS
  obtain ⟨ao, cap, rfl⟩ := ownAt_slice hs.right
  have c0 : w.cell? ⟨p, 0, none⟩ = some (.slice ao L.length cap) := cells_at hs.block 0
  obtain ⟨n, hn⟩ : ∃ n, L.length = n := ⟨_, rfl⟩
  rw [hn] at c0
  have HN := Lib.hid (show D.n = n from by rw [← hr.len]; exact hn)
  have hn6 : n ≤ 65536 := by rw [← HN.out]; exact hwf.small
  have HW := Lib.hid hwf
  have H0 := Lib.hid hS
  clear hS hs hr hwf hn
  obtain ⟨ti, hi, hz0, hz1, hz2⟩ := info_parts info_In
  go_enter Tryz.func86, Tryz.ntmps86
  go_wp2_with (at_make; refine wpList_make_full _ rfl _ _ 43 rfl w.heap.size TIn ti (.int .i64 0) 1 Tryz.underlying43 hi hz0 hz1 .i64 .i64 _ _ n rfl rfl ?_ ?_ ?_ ?_ ?_ ?_)
  all_goals first | rfl | omega | (rw [hz2]; omega) | (unfold maxLen; omega) | exact Nat.zero_le _ | exact Nat.le_refl _ | skip
  intro w2 hown hg
  have hs2 := Sat.ownRow H0.out (fun k hk => hg.block k hk (by simp)) (Nat.le_refl _) hown
  have hsm2 : Same w w2 := ⟨hg.os, hg.tape, hg.output, hg.size⟩
  rcases ownAt_iff.1 hs2 with ⟨h, _⟩ | ⟨g, cp, cur, ⟨hv, _, _, hcs, _, _⟩, hs3⟩
  · simp at h
  injection hv with hv1 hv2 hv3
  obtain rfl : w.heap.size = g := by simpa using hv1
  subst hv3
  have HST := Lib.hid (show FlSt w w.heap.size n (refD RT p D * F) (.int .i64 0) w2 from ⟨0, cur, Nat.zero_le _, rfl, by rw [hcs, Nat.mul_one], by intro j hj; omega, hsm2, hs3⟩)
  clear hs3 hs2 hsm2 hown hg hcs c0 hi hz0 hz1 hz2
  generalize w.heap.size = g at HST ⊢
  go_wp2
  go_loopw [3] (fun i wr => FlSt w g n (refD RT p D * F) i wr) (fun i _ => n - (intOf i).toNat)
  case atStart => exact HST.out
  case round =>
    clear HST
    obtain ⟨k, cur, hk, rfl, hcz, hcells, H1⟩ := hrel.st
    clear hrel
    have HC := Lib.hid hcells
    clear hcells
    by_cases hlt : k < n
    · have hltd : decide (k < n) = true := decide_eq_true hlt
      have hki : (k : Int) < (n : Int) := by omega
      have hk0 : (0 : Int) ≤ (k : Int) := by omega
      have hk6 : (k : Int) ≤ 65536 := by omega
      have hw1 : IntKind.i64.wrap ((k : Int) + 1) = (k : Int) + 1 := IntWalk.i64_in _ (by omega)
      obtain ⟨u, hu⟩ : ∃ u, cur[k]? = some u := ⟨_, Array.getElem?_eq_getElem (by omega)⟩
      have ck : wr.cell? ⟨g, k, none⟩ = some u := by rw [cells_at H1.out.2.block]; exact hu
      have fk : wr.frozen? ⟨g, k, none⟩ = false := thawed_at H1.out.2.block _
      have HL := Lib.hid (And.intro hk hlt)
      go_wp2
      refine ⟨⟨k + 1, cur.setIfInBounds k (.int .i64 64), HL.out.2, rfl, by rw [Array.size_setIfInBounds, hcz], ?_, H1.out.1.setCell _ _, H1.out.2.setCell (i := k) (.int .i64 64)⟩, by have := HL.out; simp only [intOf]; omega⟩
      intro j hj
      rw [Array.getElem?_setIfInBounds]
      split
      · rw [if_pos (by omega)]
      · exact HC.out j (by omega)
    · obtain rfl : k = n := by omega
      have hltd : decide (k < k) = false := decide_eq_false (by omega)
      have HS := Lib.hid (rsettle_any p D (pts g (.cells cur TIn (0, 0)) * F) (.slice (some ⟨g, 0, none⟩) k k) (List.replicate k 64) wr (H1.out.2.perm (by ac_rfl)) (by
        intro w' h
        refine ⟨_, _, by rw [List.length_replicate], fun _ => ⟨g, 0, rfl, fun j x hx => ?_⟩⟩
        have hj := (List.getElem?_eq_some_iff.1 hx).1
        rw [List.length_replicate] at hj
        rw [List.getElem?_replicate, if_pos hj] at hx
        obtain rfl := Option.some.inj hx
        rw [cells_at h.block, Nat.mul_one, Nat.zero_add]
        exact HC.out j hj))
      have HF := Lib.hid (show DiskM.cutN D (List.replicate k 64) D.pending.length = D.flush from flush_cutN HW.out _ (by
        intro j hj
        have h1 : D.pending.length ≤ D.n := penK_le D D.n
        rw [List.getD_eq_getElem?_getD, List.getElem?_replicate, if_pos (by rw [← HN.out]; omega)]; rfl))
      clear hlt hk hcz
      go_wp2_with (go_at_call 98; refine HS.out.mono ?_; rintro e w5 ⟨rfl, h5⟩; rw [HF.out] at h5)
      go_end0
      exact ⟨rfl, H1.out.1.trans h5.out.1, ((h5.out.2.perm (show _ = pts g (.cells cur TIn (0, 0)) * (refD RT p D.flush * F) from by ac_rfl)).right)⟩
structure CtSt (w : World) (p : Nat) (ao : Option Addr) (n cap : Nat) (C : DiskM) (F : HProp) (i : Value) (wr : World) : Prop where
  st : ∃ (k : Nat) (L : List SecV), k ≤ n ∧ i = .int .i64 (k : Int) ∧ L.length = n ∧ RefOf (armK C k) L ∧ Hid (Same w wr ∧ Sat wr (refA p ao n cap L F))
set_option maxRecDepth 20000 in
set_option maxHeartbeats 4000000 in
theorem rcut_any (p : Nat) (D : DiskM) (F : HProp) (pv : Value) (picks : List Int) (w : World) (hS : Sat w (refD RT p D * F)) (hpk : ∀ w', Sat w' F → IntsAt w' pv picks) :
    Calls Tryz.prog 88 #[.pointer (some ⟨p, 0, none⟩), pv] w fun e w' => e = .returned (.tuple #[]) ∧ Hid (Same w w' ∧ Sat w' (refD RT p (D.cut picks) * F)) := by
  have hwf : D.WF := by obtain ⟨_, _, ⟨h, _⟩, _⟩ := refD_iff.1 hS; exact h
  have HS := Lib.hid (rsettle_any p D F pv picks w hS hpk)
  have HE := Lib.hid (show armK (DiskM.cutN D picks D.pending.length) (DiskM.cutN D picks D.pending.length).n = D.cut picks from by rw [armK_all (hwf.cutN picks _)]; exact DiskM.cutN_all D hwf picks)
  have HWC := Lib.hid (hwf.cut picks)
  have HWN := Lib.hid (hwf.cutN picks D.pending.length)
  obtain ⟨E, hE⟩ : ∃ E, Hid (D.cut picks = E) := ⟨_, Lib.hid rfl⟩
  rw [hE.out] at HE HWC ⊢
  generalize DiskM.cutN D picks D.pending.length = C at HS HE HWN
  clear hS hpk hwf
  go_enter Tryz.func88, Tryz.ntmps88
  go_upto_region 1 with (go_at_call 98; refine HS.out.mono ?_; rintro e w1 ⟨rfl, h1⟩)
  obtain ⟨v, L, ⟨_, hr⟩, hs⟩ := refD_iff.1 h1.out.2
  obtain ⟨ao, cap, rfl⟩ := ownAt_slice hs.right
  obtain ⟨n, hn⟩ : ∃ n, L.length = n := ⟨_, rfl⟩
  have hCn : C.n = n := by rw [← hr.len]; exact hn
  have hn6 : n ≤ 65536 := by rw [← hCn]; exact HWN.out.small
  have hs1 : Sat w1 (refA p ao n cap L F) := by unfold refA; rw [hn] at hs ⊢; exact hs
  have H0 := Lib.hid (show CtSt w p ao n cap C F (.int .i64 0) w1 from ⟨0, L, Nat.zero_le _, rfl, hn, by rw [armK_zero]; exact hr, h1.out.1, hs1⟩)
  rw [hCn] at HE
  clear hs hs1 hr hn h1 hCn HS
  go_upto_region 2 with (fail)
  go_loopw [4] (fun i wr => CtSt w p ao n cap C F i wr) (fun i _ => n - (intOf i).toNat)
  case atStart => exact H0.out
  case round =>
    clear H0
    obtain ⟨k, L, hk, rfl, hn, hr, H1⟩ := hrel.st
    clear hrel
    have c0 : wr.cell? ⟨p, 0, none⟩ = some (.slice ao n cap) := cells_at (Sat.block H1.out.2) 0
    by_cases hlt : k < n
    · have hltd : decide (k < n) = true := decide_eq_true hlt
      have hki : (k : Int) < (n : Int) := by omega
      have hk0 : (0 : Int) ≤ (k : Int) := by omega
      have hk6 : (k : Int) ≤ 65536 := by omega
      have hw1 : IntKind.i64.wrap ((k : Int) + 1) = (k : Int) + 1 := IntWalk.i64_in _ (by omega)
      obtain ⟨x, hx⟩ : ∃ x, L[k]? = some x := ⟨_, List.getElem?_eq_getElem (by omega)⟩
      obtain ⟨g, rfl, -⟩ := sec_cells (Sat.right H1.out.2) hx
      have ho : Sat wr (refO p g n cap L F) := H1.out.2
      obtain ⟨-, -, -, -, e3, ff⟩ := refO_cells ho hx
      have f3 := ff (k * 4 + 3)
      have HNX := Lib.hid (show Same w (wr.setCell ⟨g, k * 4 + 3, none⟩ (.int .i64 (-2))) ∧ Sat (wr.setCell ⟨g, k * 4 + 3, none⟩ (.int .i64 (-2))) (refA p (some ⟨g, 0, none⟩) n cap (L.set k (x.1.arm (-2), x.2)) F) from ⟨H1.out.1.setCell _ _, refO_arm ho hx (-2)⟩)
      have HR := Lib.hid (show RefOf (armK C (k + 1)) (L.set k (x.1.arm (-2), x.2)) from by have h := hr.arm hx none; rw [armK_succ] at h; exact h)
      have HL := Lib.hid (And.intro hlt hn)
      clear ho hx hr hn ff hlt hk H1
      go_wp2
      go_roundw
      case rel => exact ⟨⟨k + 1, _, HL.out.1, rfl, by rw [List.length_set]; exact HL.out.2, HR.out, HNX.out⟩⟩
      case measure => have := HL.out; simp only [intOf]; omega
    · obtain rfl : k = n := by omega
      have hltd : decide (k < k) = false := decide_eq_false (by omega)
      rw [HE.out] at hr
      have HF := Lib.hid (refA_refD HWC.out hr H1.out.2)
      clear hr hlt hk hn
      go_wp2
      go_end0
      exact ⟨rfl, H1.out.1, HF.out⟩
end Go.Proofs.YtogmkbhbmmgidaaGreat
end
section
namespace Go.Proofs.YtogmkbhbmmgidaaGreat
open Go.RowKit Go.Sl Go.ChangeMaps
def rshX (p : Nat) (S : ShelfM) (vb vs vi : Value) (ps qs : List Nat) (R F : HProp) : HProp :=
  pts p (.cells (rsC S.cfg vb vs vi (!S.off) S.rleft) TRsh (0, 0)) * (ownAt TRp 1 vb S.bays.length (ps.map ptrV) * (ownAt 3 1 vs S.bays.length (S.bays.map stV) * (ownAt TRp 1 vi S.images.length (qs.map ptrV) * (R * (refsT RT qs S.images * F)))))
theorem rshO_eq (p : Nat) (S : ShelfM) (vb vs vi : Value) (ps qs : List Nat) (q : Nat) (D : DiskM) (R F : HProp) : rshO p S vb vs vi ps qs q D R F = refD RT q D * rshX p S vb vs vi ps qs R F := by
  unfold rshO rshX
  ac_rfl
theorem rsh_bays {p : Nat} {S : ShelfM} {F : HProp} {w : World} {k : Nat} {vb vs vi : Value} {ps qs : List Nat} {q : Nat} {R : HProp} {D : DiskM} (ho : RshOpen S k ps qs q R) (h : Sat w (rshO p S vb vs vi ps qs q D R F)) :
    ∃ g capb, vb = .slice (some ⟨g, 0, none⟩) S.bays.length capb ∧ w.cell? ⟨p, 6, none⟩ = some vb ∧ w.cell? ⟨g, k, none⟩ = some (.pointer (some ⟨q, 0, none⟩)) ∧ w.frozen? ⟨g, k, none⟩ = false := by
  have hk := (List.getElem?_eq_some_iff.1 ho.bay).1
  unfold rshO at h
  obtain ⟨⟨q6, _, _, _, _⟩, _, _⟩ := rs_cells h
  obtain ⟨g, cap, cur, rfl, _, hc, hf, _⟩ := ownAt_block h.right (by omega)
  exact ⟨g, cap, rfl, q6, hc k (ptrV q) (by rw [List.getElem?_map, ho.at_]; rfl), hf k⟩
set_option maxHeartbeats 1000000 in
theorem rflush17_any (p : Nat) (S : ShelfM) (F : HProp) (d : Int) (w : World) (hS : Sat w (rshAt RS p S * F)) :
    Calls Tryz.prog 39 #[.pointer (some ⟨p, 0, none⟩), .int .i64 d] w fun e w' => e = .returned (.int .i64 (S.flush d).2) ∧ Hid (Same w w' ∧ Sat w' (rshAt RS p (S.flush d).1 * F)) := by
  have hwf := rshAt_wf hS
  have HST := Lib.hid (rstate_any p S F d w hS)
  have HS := Lib.hid hS
  by_cases h0 : S.state d = 0
  · have hk : S.flush d = (S, 1) := by unfold ShelfM.flush; rw [if_pos h0]
    rw [hk]
    rw [h0] at HST
    clear hk h0 hwf hS
    go_enter Tryz.func39, Tryz.ntmps39
    go_wp2_with (go_at_call 53; refine HST.out.mono ?_; rintro e w1 ⟨rfl, rfl⟩)
    go_ret
    exact ⟨rfl, Same.refl w, HS.out⟩
  · obtain ⟨hd0, hd1⟩ := ShelfM.state_in hwf h0
    obtain ⟨k, rfl⟩ := Int.eq_ofNat_of_zero_le hd0
    have HRD := Lib.hid (rready_any p S F k (by omega) w hS)
    have hfl : S.flush (k : Int) = S.step k DiskM.flush := by unfold ShelfM.flush; rw [if_neg h0]
    have e0 : (S.state (k : Int) == 0) = false := by simp [h0]
    by_cases ha : S.access (k : Int) = 0
    case neg =>
      rw [hfl, ShelfM.step_acc _ ha]
      have e1 : (S.access (k : Int) != 0) = true := by simp [ha]
      clear hfl ha h0 hwf hS hd0 hd1
      generalize S.access (k : Int) = ac at *
      generalize S.state (k : Int) = st at *
      go_enter Tryz.func39, Tryz.ntmps39
      go_wp2_with (first
        | (go_at_call 53; refine HST.out.mono ?_; rintro e w1 ⟨rfl, rfl⟩)
        | (go_at_call 82; refine HRD.out.mono ?_; rintro e w1 ⟨rfl, rfl⟩))
      go_ret
      exact ⟨rfl, Same.refl w, HS.out⟩
    case pos =>
      rw [ha] at HRD
      rw [hfl, ShelfM.step_tick _ ha]
      have HTK := Lib.hid (rstep_any p S F w hS)
      obtain ⟨hb1, -, -⟩ := S.tick_bays
      obtain ⟨hs1, hs2⟩ := S.tick_bay (k : Int)
      have HWF := Lib.hid (ShelfM.tick_wf hwf)
      have HB := Lib.hid (And.intro hb1 (And.intro hs1 hs2))
      by_cases ht : S.tick.2 = 0
      case neg =>
        rw [if_neg ht]
        have e1 : (S.tick.2 != 0) = true := by simp [ht]
        clear hfl ha h0 hwf hS hd0 hd1 ht hb1 hs1 hs2 HWF HB
        generalize S.tick.2 = tk at *
        generalize S.state (k : Int) = st at *
        go_enter Tryz.func39, Tryz.ntmps39
        go_wp2_with (first
          | (go_at_call 53; refine HST.out.mono ?_; rintro e w1 ⟨rfl, rfl⟩)
          | (go_at_call 82; refine HRD.out.mono ?_; rintro e w1 ⟨rfl, rfl⟩)
          | (go_at_call 83; refine HTK.out.mono ?_; rintro e w4 ⟨rfl, h4⟩))
        go_ret
        exact ⟨rfl, h4.out.1, h4.out.2⟩
      case pos =>
        rw [if_pos ht]
        rw [ht] at HTK
        have hk2 : k < S.bays.length := by omega
        have HK := Lib.hid hk2
        clear hfl ha hwf hS hd0 hd1 ht hb1 hs1 hs2 hk2
        have H0 := Lib.hid h0
        clear h0
        generalize S.state (k : Int) = st at HST e0
        go_enter Tryz.func39, Tryz.ntmps39
        go_upto_region 9 with (first
          | (go_at_call 53; refine HST.out.mono ?_; rintro e w1 ⟨rfl, rfl⟩)
          | (go_at_call 82; refine HRD.out.mono ?_; rintro e w1 ⟨rfl, rfl⟩)
          | (go_at_call 83; refine HTK.out.mono ?_; rintro e w4 ⟨rfl, h4⟩))
        obtain ⟨vb, vs, vi, ps, qs, q, R, ho, hs⟩ := rsh_open h4.out.2 (k := k) (by rw [HB.out.1]; exact HK.out)
        obtain ⟨g, capb, rfl, c6, cq, -⟩ := rsh_bays ho hs
        have HO := Lib.hid ho
        rw [rshO_eq] at hs
        have hkn : (k : Int) < (S.tick.1.bays.length : Int) := by
          have := HK.out
          rw [HB.out.1]
          omega
        obtain ⟨n, hn⟩ : ∃ n, S.tick.1.bays.length = n := ⟨_, rfl⟩
        rw [hn] at hkn c6 hs
        have HQ := Lib.hid hs
        have HN := Lib.hid hn
        have hk0 : (0 : Int) ≤ (k : Int) := by omega
        clear ho hs hn
        go_wp2_with (go_at_call 86; refine (rflush_any q _ _ w4 HQ.out).mono ?_; rintro e w5 ⟨rfl, h5⟩)
        go_ret
        refine ⟨rfl, h4.out.1.trans h5.out.1, ?_⟩
        have h6 := h5.out.2
        rw [← HN.out, ← rshO_eq] at h6
        have h7 := rsh_disk HO.out (HWF.out.setDisk (by rw [HB.out.2.1]; exact H0.out) (DiskM.flush_n _)) h6
        rw [HB.out.2.2] at h7
        exact h7
end Go.Proofs.YtogmkbhbmmgidaaGreat
end
section
namespace Go.Proofs.YtogmkbhbmmgidaaGreat
open Go.RowKit Go.Sl Go.ChangeMaps
theorem rsh_swap {p : Nat} {S : ShelfM} {F : HProp} {w : World} {k g gs n capb caps : Nat} {vi : Value} {ps qs : List Nat} {q : Nat} {R : HProp} {D : DiskM} (ho : RshOpen S k ps qs q R) (q' : Nat) (D' : DiskM) (st : Int) (hn : S.bays.length = n) (hwf : (S.setBay k ⟨D', st⟩).WF)
    (h : Sat w (rshO p S (.slice (some ⟨g, 0, none⟩) n capb) (.slice (some ⟨gs, 0, none⟩) n caps) vi ps qs q D R (refD RT q' D' * F))) :
    Sat ((w.setCell ⟨g, k, none⟩ (ptrV q')).setCell ⟨gs, k, none⟩ (.int .i64 st)) (rshAt RS p (S.setBay k ⟨D', st⟩) * (refD RT q D * F)) := by
  have hk := (List.getElem?_eq_some_iff.1 ho.bay).1
  have e1 : (S.setBay k ⟨D', st⟩).bays = S.bays.set k ⟨D', st⟩ := by unfold ShelfM.setBay; rw [Int.toNat_natCast]
  have e2 : (S.setBay k ⟨D', st⟩).bays.map BayM.disk = (S.bays.map BayM.disk).set k D' := by rw [e1, List.map_set]
  have e3 : (S.setBay k ⟨D', st⟩).bays.map stV = (S.bays.map stV).set k (.int .i64 st) := by rw [e1, List.map_set]; rfl
  have e4 : (S.setBay k ⟨D', st⟩).bays.length = S.bays.length := by rw [e1, List.length_set]
  have e5 : (ps.set k q').map ptrV = (ps.map ptrV).set k (ptrV q') := by rw [List.map_set]
  refine rshAt_iff.2 ⟨.slice (some ⟨g, 0, none⟩) n capb, .slice (some ⟨gs, 0, none⟩) n caps, vi, ps.set k q', qs, ⟨hwf, by rw [e4, List.length_set]; exact ho.lb, ho.li⟩, ?_⟩
  rw [e2, e3, e4, e5]
  rw [show RS.rf = RT from rfl, ho.set q' D', star_assoc]
  unfold rshO at h
  have h1 := ownAt_set (h.perm (show _ = ownAt TRp 1 (.slice (some ⟨g, 0, none⟩) n capb) S.bays.length (ps.map ptrV) * (pts p (.cells (rsC S.cfg (.slice (some ⟨g, 0, none⟩) n capb) (.slice (some ⟨gs, 0, none⟩) n caps) vi (!S.off) S.rleft) TRsh (0, 0)) * (ownAt 3 1 (.slice (some ⟨gs, 0, none⟩) n caps) S.bays.length (S.bays.map stV) * (ownAt TRp 1 vi S.images.length (qs.map ptrV) *
    (refD RT q D * (R * (refsT RT qs S.images * (refD RT q' D' * F))))))) from by ac_rfl)) (by omega) (g := g) (cap := capb) (by rw [hn]) (j := k) (ptrV q')
  have h2 := ownAt_set (h1.perm (show _ = ownAt 3 1 (.slice (some ⟨gs, 0, none⟩) n caps) S.bays.length (S.bays.map stV) * (pts p (.cells (rsC S.cfg (.slice (some ⟨g, 0, none⟩) n capb) (.slice (some ⟨gs, 0, none⟩) n caps) vi (!S.off) S.rleft) TRsh (0, 0)) * (ownAt TRp 1 (.slice (some ⟨g, 0, none⟩) n capb) S.bays.length ((ps.map ptrV).set k (ptrV q')) * (ownAt TRp 1 vi S.images.length (qs.map ptrV) *
    (refD RT q D * (R * (refsT RT qs S.images * (refD RT q' D' * F))))))) from by ac_rfl)) (by omega) (g := gs) (cap := caps) (by rw [hn]) (j := k) (.int .i64 st)
  exact h2.perm (show _ = pts p (.cells (rsC S.cfg (.slice (some ⟨g, 0, none⟩) n capb) (.slice (some ⟨gs, 0, none⟩) n caps) vi (!S.off) S.rleft) TRsh (0, 0)) * (ownAt TRp 1 (.slice (some ⟨g, 0, none⟩) n capb) S.bays.length ((ps.map ptrV).set k (ptrV q')) * (ownAt 3 1 (.slice (some ⟨gs, 0, none⟩) n caps) S.bays.length ((S.bays.map stV).set k (.int .i64 st)) * (ownAt TRp 1 vi S.images.length (qs.map ptrV) *
    (refD RT q' D' * (R * (refsT RT qs S.images * (refD RT q D * F))))))) from by ac_rfl)
end Go.Proofs.YtogmkbhbmmgidaaGreat
end
section
namespace Go.Proofs.YtogmkbhbmmgidaaGreat
open Go.RowKit Go.Sl Go.ChangeMaps
theorem sec17_wf {c : CfgM} (h : c.WF) : sec17 c = c.sectors := by
  have h1 := h.rows
  have h2 := h.log
  have h3 := h.image
  unfold sec17 CfgM.sectors wrap64
  omega
theorem new_sec_n {S : ShelfM} (h : S.WF) : ((DiskM.new S.cfg.sectors).n : Int) = S.cfg.sectors := by
  have h1 := h.cfg.rows
  have h2 := h.cfg.log
  have h3 := h.cfg.image
  have h4 := h.cfg.small
  unfold DiskM.new
  show ((min (max S.cfg.sectors 0) 65536).toNat : Int) = S.cfg.sectors
  unfold CfgM.sectors at *
  omega
theorem rsh_half {p : Nat} {S : ShelfM} {F : HProp} {w : World} {k g gs n capb caps : Nat} {vi : Value} {ps qs : List Nat} {q : Nat} {R : HProp} {D : DiskM} (ho : RshOpen S k ps qs q R) (q' : Nat) (hn : S.bays.length = n)
    (h : Sat w (rshO p S (.slice (some ⟨g, 0, none⟩) n capb) (.slice (some ⟨gs, 0, none⟩) n caps) vi ps qs q D R F)) :
    (w.setCell ⟨g, k, none⟩ (ptrV q')).cell? ⟨p, 7, none⟩ = some (.slice (some ⟨gs, 0, none⟩) n caps) ∧ (w.setCell ⟨g, k, none⟩ (ptrV q')).cell? ⟨gs, k, none⟩ = some (.int .i64 (S.state k)) ∧ (w.setCell ⟨g, k, none⟩ (ptrV q')).frozen? ⟨gs, k, none⟩ = false := by
  have hk := (List.getElem?_eq_some_iff.1 ho.bay).1
  unfold rshO at h
  have h1 := ownAt_set (h.perm (show _ = ownAt TRp 1 (.slice (some ⟨g, 0, none⟩) n capb) S.bays.length (ps.map ptrV) * (pts p (.cells (rsC S.cfg (.slice (some ⟨g, 0, none⟩) n capb) (.slice (some ⟨gs, 0, none⟩) n caps) vi (!S.off) S.rleft) TRsh (0, 0)) * (ownAt 3 1 (.slice (some ⟨gs, 0, none⟩) n caps) S.bays.length (S.bays.map stV) * (ownAt TRp 1 vi S.images.length (qs.map ptrV) *
    (refD RT q D * (R * (refsT RT qs S.images * F)))))) from by ac_rfl)) (by omega) (g := g) (cap := capb) (by rw [hn]) (j := k) (ptrV q')
  refine ⟨cells_at h1.right.block 7, ?_⟩
  obtain ⟨gs', cap, cur, e, _, hc, hf, _⟩ := ownAt_block (h1.perm (show _ = ownAt 3 1 (.slice (some ⟨gs, 0, none⟩) n caps) S.bays.length (S.bays.map stV) * (ownAt TRp 1 (.slice (some ⟨g, 0, none⟩) n capb) S.bays.length ((ps.map ptrV).set k (ptrV q')) * (pts p (.cells (rsC S.cfg (.slice (some ⟨g, 0, none⟩) n capb) (.slice (some ⟨gs, 0, none⟩) n caps) vi (!S.off) S.rleft) TRsh (0, 0)) * (ownAt TRp 1 vi S.images.length (qs.map ptrV) *
    (refD RT q D * (R * (refsT RT qs S.images * F)))))) from by ac_rfl)) (by omega)
  simp only [Value.slice.injEq, Option.some.injEq, Addr.mk.injEq, and_true] at e
  obtain ⟨rfl, _, rfl⟩ := e
  exact ⟨hc k _ (by rw [List.getElem?_map, ho.bay]; rfl), hf k⟩
set_option maxRecDepth 20000 in
set_option maxHeartbeats 4000000 in
theorem rreplace_any (p : Nat) (S : ShelfM) (F : HProp) (d : Int) (w : World) (hS : Sat w (rshAt RS p S * F)) :
    Calls Tryz.prog 46 #[.pointer (some ⟨p, 0, none⟩), .int .i64 d] w fun e w' => e = .returned (.int .i64 (S.replace d).2) ∧ Hid (Same w w' ∧ ∃ X, Sat w' (rshAt RS p (S.replace d).1 * (X * F))) := by
  have hwf := rshAt_wf hS
  have HST := Lib.hid (rstate_any p S F d w hS)
  have HS := Lib.hid hS
  by_cases h0 : S.state d = 0
  · have hk : S.replace d = (S, 1) := by unfold ShelfM.replace ShelfM.want; rw [if_pos h0]; rfl
    rw [hk]
    rw [h0] at HST
    clear hk h0 hwf hS
    go_enter Tryz.func46, Tryz.ntmps46
    go_wp2_with (go_at_call 53; refine HST.out.mono ?_; rintro e w1 ⟨rfl, rfl⟩)
    go_ret
    exact ⟨rfl, Same.refl w, emp, by rw [emp_star]; exact HS.out⟩
  · obtain ⟨hd0, hd1⟩ := ShelfM.state_in hwf h0
    obtain ⟨k, rfl⟩ := Int.eq_ofNat_of_zero_le hd0
    obtain ⟨vb, vs, vi, ps, qs, q, R, ho, hs⟩ := rsh_open hS (k := k) (by omega)
    obtain ⟨gs, caps, rfl, c7, cs, fs⟩ := rsh_states ho hs
    have hkd : S.replace (k : Int) = if S.state k = 1 then (S, 19) else (S.setBay k ⟨DiskM.new S.cfg.sectors, 1⟩, 0) := by
      unfold ShelfM.replace ShelfM.want
      rw [if_neg h0]
      by_cases h1 : S.state k = 1
      · rw [if_pos h1, decide_eq_true h1]; simp
      · rw [if_neg h1, decide_eq_false h1]; simp
    obtain ⟨n, hn⟩ : ∃ n, S.bays.length = n := ⟨_, rfl⟩
    rw [hn] at c7 hd1
    have HN := Lib.hid hn
    by_cases h1 : S.state (k : Int) = 1
    · rw [if_pos h1] at hkd
      rw [hkd]
      rw [h1] at cs HST
      clear hs ho hwf hS hn hkd h0 h1
      go_enter Tryz.func46, Tryz.ntmps46
      go_wp2_with (go_at_call 53; refine HST.out.mono ?_; rintro e w1 ⟨rfl, rfl⟩)
      go_ret
      exact ⟨rfl, Same.refl w, emp, by rw [emp_star]; exact HS.out⟩
    · rw [if_neg h1] at hkd
      rw [hkd]
      have e0 : (S.state (k : Int) == 0) = false := by simp [h0]
      have e1 : (S.state (k : Int) == 1) = false := by simp [h1]
      have HWF := Lib.hid hwf
      have HO := Lib.hid (And.intro ho hs)
      generalize S.state (k : Int) = st at cs HST e0 e1
      clear hs ho hwf hS hn hkd h0 h1
      go_enter Tryz.func46, Tryz.ntmps46
      go_upto_region 5 with (go_at_call 53; refine HST.out.mono ?_; rintro e w1 ⟨rfl, rfl⟩)
      obtain ⟨g, capb, rfl, c6, cq, -⟩ := rsh_bays HO.out.1 HO.out.2
      rw [HN.out] at c6
      have hk0 : (0 : Int) ≤ (k : Int) := by omega
      have hra : w.rangeAt p 0 (cfgL S.cfg) := (rs_cells (show Sat w (pts p _ * _) from HO.out.2)).2.2
      have HSEC := Lib.hid (fun W => sec17_any S.cfg W)
      rw [sec17_wf HWF.out.cfg] at HSEC
      have HQ := Lib.hid (And.intro ((Same.refl w).drew) (HO.out.2.drew))
      obtain ⟨sc, hsc⟩ : ∃ sc, S.cfg.sectors = sc := ⟨_, rfl⟩
      rw [hsc] at HSEC
      have HSC := Lib.hid hsc
      clear hsc cs c7 cq HST
      have hS0 : w.drew.cell? ⟨p, 6, none⟩ = some (.slice (some ⟨g, 0, none⟩) n capb) ∧ w.drew.rangeAt p 0 (cfgL S.cfg) := ⟨c6, hra⟩
      refine reg_begin (fun w' => w'.cell? ⟨p, 6, none⟩ = some (.slice (some ⟨g, 0, none⟩) n capb) ∧ w'.rangeAt p 0 (cfgL S.cfg)) (by kernel_rfl) ?_
      clear c6 hra
      generalize w.drew = W0 at hS0 HQ ⊢
      (apply reg_take 0 rfl rfl (by decide +kernel) rfl); (rintro w' ⟨h1, h2⟩; go_simp; rfl); exact hS0; simp only [List.setIfInBounds_toArray, List.set_cons_succ, List.set_cons_zero]
      (apply reg_take 1 rfl rfl (by decide +kernel) rfl); (rintro w' ⟨h1, h2⟩; go_simp; rfl); exact hS0; simp only [List.setIfInBounds_toArray, List.set_cons_succ, List.set_cons_zero]
      (apply reg_take 2 rfl rfl (by decide +kernel) rfl); (rintro w' ⟨h1, h2⟩; go_simp; rfl); exact hS0; simp only [List.setIfInBounds_toArray, List.set_cons_succ, List.set_cons_zero]
      (apply reg_take 3 rfl rfl (by decide +kernel) rfl); (rintro w' ⟨h1, h2⟩; go_simp; rfl); exact hS0; simp only [List.setIfInBounds_toArray, List.set_cons_succ, List.set_cons_zero]
      (apply reg_take 4 rfl rfl (by decide +kernel) rfl); (rintro w' ⟨h1, h2⟩; go_simp; rfl); exact hS0; simp only [List.setIfInBounds_toArray, List.set_cons_succ, List.set_cons_zero]
      (apply reg_take 5 rfl rfl (by decide +kernel) rfl); (rintro w' ⟨h1, h2⟩; go_simp; rfl); exact hS0; simp only [List.setIfInBounds_toArray, List.set_cons_succ, List.set_cons_zero]
      (apply reg_take 6 rfl rfl (by decide +kernel) rfl); (rintro w' ⟨h1, h2⟩; go_simp; rfl); exact hS0; simp only [List.setIfInBounds_toArray, List.set_cons_succ, List.set_cons_zero]
      (apply reg_take 7 rfl rfl (by decide +kernel) rfl); (rintro w' ⟨h1, h2⟩; go_simp; rfl); exact hS0; simp only [List.setIfInBounds_toArray, List.set_cons_succ, List.set_cons_zero]
      refine reg_take 8 (v := .agg (cfgA S.cfg)) rfl rfl (by decide +kernel) rfl (fun w' h => exec_load rfl rfl (load_cfg h.2)) hS0 ?_; simp only [List.setIfInBounds_toArray, List.set_cons_succ, List.set_cons_zero]
      refine reg_call 9 rfl rfl (by decide +kernel) rfl (f := 18) (args := #[.agg (cfgA S.cfg)]) (R := fun v w' => v = .int .i64 sc ∧ Hid (Below W0.heap.size W0 w')) (by kernel_rfl) ((HSEC.out W0).mono fun e w' h => ⟨_, h.1, rfl, h.2⟩) ?_
      rintro _ w1 ⟨rfl, hb1⟩
      replace HQ := Lib.hid (And.intro (HQ.out.1.below hb1.out) (HQ.out.2.below hb1.out))
      have hra1 := (rs_cells (show Sat w1 (pts p _ * _) from HQ.out.2)).2.2
      have hc1 := (rsh_bays HO.out.1 HQ.out.2).choose_spec.choose_spec.2.1
      rw [HN.out] at hc1
      refine ⟨⟨hc1, hra1⟩, ?_⟩
      clear hS0
      have hS1 : w1.cell? ⟨p, 6, none⟩ = some (.slice (some ⟨g, 0, none⟩) n capb) ∧ w1.rangeAt p 0 (cfgL S.cfg) := ⟨hc1, hra1⟩
      clear hc1 hra1
      simp only [List.setIfInBounds_toArray, List.set_cons_succ, List.set_cons_zero]
      refine reg_call 10 rfl rfl (by decide +kernel) rfl (f := 23) (args := #[.int .i64 sc]) (R := fun v w' => ∃ q', v = .pointer (some ⟨q', 0, none⟩) ∧ Hid (Same w w' ∧ Sat w' (rshO p S (.slice (some ⟨g, 0, none⟩) S.bays.length capb) (.slice (some ⟨gs, 0, none⟩) S.bays.length caps) vi ps qs q (S.disk k) R (refD RT q' (DiskM.new S.cfg.sectors) * F)))) (by kernel_rfl)
        ((rnew16_any sc _ w1 HQ.out.2).mono fun e w' h => by
          obtain ⟨q', rfl, hX⟩ := h
          obtain ⟨h1, h2⟩ := hX.out
          rw [← HSC.out] at h2
          exact ⟨_, rfl, q', rfl, HQ.out.1.trans h1, h2.perm (by unfold rshO; ac_rfl)⟩) ?_
      rintro _ w3 ⟨q', rfl, h3⟩
      have hra3 := (rs_cells (show Sat w3 (pts p _ * _) from h3.out.2)).2.2
      obtain ⟨g', capb', eg, hc3, hq3, hf3⟩ := rsh_bays HO.out.1 h3.out.2
      simp only [Value.slice.injEq, Option.some.injEq, Addr.mk.injEq, and_true, true_and] at eg
      obtain ⟨rfl, rfl⟩ := eg
      rw [HN.out] at hc3
      refine ⟨⟨hc3, hra3⟩, ?_⟩
      simp only [List.setIfInBounds_toArray, List.set_cons_succ, List.set_cons_zero]
      obtain ⟨ip, hip, hip2⟩ := Option.map_eq_some_iff.1 (show (Tryz.prog.info? TRp).map (·.size) = some 1 by kernel_rfl)
      have hS3 : w3.cell? ⟨p, 6, none⟩ = some (.slice (some ⟨g, 0, none⟩) n capb) ∧ w3.rangeAt p 0 (cfgL S.cfg) := ⟨hc3, hra3⟩
      (apply reg_take 11 rfl rfl (by decide +kernel) rfl); (rintro w' ⟨h1, h2⟩; go_simp; rfl); exact hS3; simp only [List.setIfInBounds_toArray, List.set_cons_succ, List.set_cons_zero]
      refine reg_do_last 12 (w3.setCell ⟨g, k, none⟩ (.pointer (some ⟨q', 0, none⟩))) rfl rfl (by decide +kernel) rfl (exec_store_cell rfl rfl rfl hip hip2 rfl hq3 hf3) ?_
      have h3' := h3.out.2
      rw [HN.out] at h3'
      have H4 := Lib.hid (And.intro h3.out.1 h3')
      obtain ⟨d7, ds, df⟩ := rsh_half HO.out.1 q' HN.out h3'
      unfold ptrV at d7 ds df
      have hsm4 := Lib.hid (h3.out.1.setCell ⟨g, k, none⟩ (.pointer (some ⟨q', 0, none⟩)))
      have hfin := Lib.hid (rsh_swap HO.out.1 q' (DiskM.new S.cfg.sectors) 1 HN.out (HWF.out.setBay _ ⟨.inl rfl, fun _ => new_sec_n HWF.out⟩) h3')
      unfold ptrV at hfin
      clear h3 h3' hra3 hc3 hq3 hf3 hip hip2 hS1 hb1 HQ H4 HSEC HSC
      generalize w3.setCell ⟨g, k, none⟩ (.pointer (some ⟨q', 0, none⟩)) = W4 at d7 ds df hsm4 hfin ⊢
      go_wp2
      go_ret
      exact ⟨rfl, hsm4.out.setCell _ _, _, hfin.out⟩
end Go.Proofs.YtogmkbhbmmgidaaGreat
end
