/- solventref16.Flush, Cut. -/
import Derived.Test.YtdeblpnkpefbcaaQd
namespace Go.Sl
open Go Go.RowKit
theorem flush_cutN {D : DiskM} (h : D.WF) (picks : List Int) (hp : ∀ k, k < D.pending.length → picks.getD k 0 = 64) : DiskM.cutN D picks D.pending.length = D.flush := by
  obtain ⟨h1, h2, h3, h4⟩ := DiskM.cutN_spec D picks D.pending.length (Nat.le_refl _)
  rw [List.take_length] at h3 h4
  have hno : ∀ i, i ∉ D.pending → D.cache i = none := by
    intro i hi
    cases hc : D.cache i with
    | none => rfl
    | some s =>
      refine absurd ?_ hi
      unfold DiskM.pending
      rw [List.mem_filter, List.mem_range]
      exact ⟨(h.cache i s hc).1, by rw [hc]; rfl⟩
  have hd : (DiskM.cutN D picks D.pending.length).dur = D.flush.dur := by
    funext i
    rw [h4]
    show _ = D.content i
    unfold DiskM.content
    by_cases hi : i ∈ D.pending
    · rw [if_pos hi]
      obtain ⟨j, hj⟩ := List.mem_iff_getElem?.1 hi
      rw [DiskM.rank_pending D hj, hp j (List.getElem?_eq_some_iff.1 hj).1]
      have hm := hi
      unfold DiskM.pending at hm
      rw [List.mem_filter] at hm
      obtain ⟨s, hs⟩ := Option.isSome_iff_exists.1 hm.2
      have hl := h.cache i s hs
      have hdl := h.dur i hl.1
      rw [hs]
      show s.take 64 ++ (D.dur i).drop 64 = s
      rw [List.take_of_length_le (by omega), List.drop_of_length_le (by omega), List.append_nil]
    · rw [if_neg hi, hno i hi]; rfl
  have hc : (DiskM.cutN D picks D.pending.length).cache = D.flush.cache := by
    funext i
    rw [h3]
    show _ = none
    by_cases hi : i ∈ D.pending
    · rw [if_pos hi]
    · rw [if_neg hi, hno i hi]
  have ha : (DiskM.cutN D picks D.pending.length).armed = D.flush.armed := h2
  have hn : (DiskM.cutN D picks D.pending.length).n = D.flush.n := h1
  cases hx : DiskM.cutN D picks D.pending.length
  rw [hx] at hd hc ha hn
  cases hy : D.flush
  rw [hy] at hd hc ha hn
  simp only at hd hc ha hn
  subst hd hc ha hn
  rfl
def armK (C : DiskM) (k : Nat) : DiskM := { C with armed := fun i => if i < k then none else C.armed i }
theorem armK_zero (C : DiskM) : armK C 0 = C := by
  unfold armK
  simp
theorem armK_succ (C : DiskM) (k : Nat) : { armK C k with armed := fupd (armK C k).armed k none } = armK C (k + 1) := by
  show (⟨C.n, C.dur, C.cache, fupd (fun i => if i < k then none else C.armed i) k none⟩ : DiskM) = ⟨C.n, C.dur, C.cache, fun i => if i < k + 1 then none else C.armed i⟩
  congr 1
  funext i
  unfold fupd
  by_cases h : i = k
  · rw [if_pos h, if_pos (by omega)]
  · rw [if_neg h]
    show (if i < k then none else C.armed i) = if i < k + 1 then none else C.armed i
    by_cases h2 : i < k
    · rw [if_pos h2, if_pos (by omega)]
    · rw [if_neg h2, if_neg (by omega)]
theorem armK_all {C : DiskM} (h : C.WF) : armK C C.n = { C with armed := fun _ => none } := by
  unfold armK
  congr 1
  funext i
  by_cases h2 : i < C.n
  · rw [if_pos h2]
  · rw [if_neg h2]
    cases hc : C.armed i with
    | none => rfl
    | some j => exact absurd (h.armed i j hc).1 h2
end Go.Sl
namespace Go.Proofs.Ytdeblpnkpefbcaa
open Go.RowKit Go.Sl Go.ChangeMaps

structure FlSt (w : World) (g n : Nat) (X : HProp) (i : Value) (wr : World) : Prop where
  st : ∃ (k : Nat) (cur : Array Value), k ≤ n ∧ i = .int .i64 (k : Int) ∧ cur.size = n ∧ (∀ j, j < k → cur[j]? = some (.int .i64 64)) ∧ Hid (Same w wr ∧ Sat wr (pts g (.cells cur TIn (0, 0)) * X))
set_option maxRecDepth 20000 in
set_option maxHeartbeats 4000000 in
theorem rflush_any (p : Nat) (D : DiskM) (F : HProp) (w : World) (hS : Sat w (refD RT p D * F)) :
    Calls Try.prog 36 #[.pointer (some ⟨p, 0, none⟩)] w fun e w' => e = .returned (.tuple #[]) ∧ Hid (Same w w' ∧ Sat w' (refD RT p D.flush * F)) := by
  obtain ⟨v, L, ⟨hwf, hr⟩, hs⟩ := refD_iff.1 hS
  obtain ⟨ao, cap, rfl⟩ := ownAt_slice hs.right
  have c0 : w.cell? ⟨p, 0, none⟩ = some (.slice ao L.length cap) := cells_at hs.block 0
  obtain ⟨n, hn⟩ : ∃ n, L.length = n := ⟨_, rfl⟩
  rw [hn] at c0
  have HN := Lib.hid (show D.n = n from by rw [← hr.len]; exact hn)
  have hn6 : n ≤ 65536 := by rw [← HN.out]; exact hwf.small
  have HW := Lib.hid hwf
  have H0 := Lib.hid hS
  clear hS hs hr hwf hn
  obtain ⟨ti, hi, hz0, hz1, hz2⟩ := info_parts info_In
  go_enter Try.func36, Try.ntmps36
  go_wp2_with (at_make; refine wpList_make_full _ rfl _ _ 30 rfl w.heap.size TIn ti (.int .i64 0) 1 Try.underlying30 hi hz0 hz1 .i64 .i64 _ _ n rfl rfl ?_ ?_ ?_ ?_ ?_ ?_)
  all_goals first | rfl | omega | (rw [hz2]; omega) | (unfold maxLen; omega) | exact Nat.zero_le _ | exact Nat.le_refl _ | skip
  intro w2 hown hg
  have hs2 := Sat.ownRow H0.out (fun k hk => hg.block k hk (by simp)) (Nat.le_refl _) hown
  have hsm2 : Same w w2 := ⟨hg.os, hg.tape, hg.output, hg.size⟩
  rcases ownAt_iff.1 hs2 with ⟨h, _⟩ | ⟨g, cp, cur, ⟨hv, _, _, hcs, _, _⟩, hs3⟩
  · simp at h
  injection hv with hv1 hv2 hv3
  obtain rfl : w.heap.size = g := by simpa using hv1
  subst hv3
  have HST := Lib.hid (show FlSt w w.heap.size n (refD RT p D * F) (.int .i64 0) w2 from ⟨0, cur, Nat.zero_le _, rfl, by rw [hcs, Nat.mul_one], by intro j hj; omega, hsm2, hs3⟩)
  clear hs3 hs2 hsm2 hown hg hcs c0 hi hz0 hz1 hz2
  generalize w.heap.size = g at HST ⊢
  go_wp2
  go_loopw [3] (fun i wr => FlSt w g n (refD RT p D * F) i wr) (fun i _ => n - (intOf i).toNat)
  case atStart => exact HST.out
  case round =>
    clear HST
    obtain ⟨k, cur, hk, rfl, hcz, hcells, H1⟩ := hrel.st
    clear hrel
    have HC := Lib.hid hcells
    clear hcells
    by_cases hlt : k < n
    · have hltd : decide (k < n) = true := decide_eq_true hlt
      have hki : (k : Int) < (n : Int) := by omega
      have hk0 : (0 : Int) ≤ (k : Int) := by omega
      have hk6 : (k : Int) ≤ 65536 := by omega
      have hw1 : IntKind.i64.wrap ((k : Int) + 1) = (k : Int) + 1 := IntWalk.i64_in _ (by omega)
      obtain ⟨u, hu⟩ : ∃ u, cur[k]? = some u := ⟨_, Array.getElem?_eq_getElem (by omega)⟩
      have ck : wr.cell? ⟨g, k, none⟩ = some u := by rw [cells_at H1.out.2.block]; exact hu
      have fk : wr.frozen? ⟨g, k, none⟩ = false := thawed_at H1.out.2.block _
      have HL := Lib.hid (And.intro hk hlt)
      go_wp2
      refine ⟨⟨k + 1, cur.setIfInBounds k (.int .i64 64), HL.out.2, rfl, by rw [Array.size_setIfInBounds, hcz], ?_, H1.out.1.setCell _ _, H1.out.2.setCell (i := k) (.int .i64 64)⟩, by have := HL.out; simp only [intOf]; omega⟩
      intro j hj
      rw [Array.getElem?_setIfInBounds]
      split
      · rw [if_pos (by omega)]
      · exact HC.out j (by omega)
    · obtain rfl : k = n := by omega
      have hltd : decide (k < k) = false := decide_eq_false (by omega)
      have HS := Lib.hid (rsettle_any p D (pts g (.cells cur TIn (0, 0)) * F) (.slice (some ⟨g, 0, none⟩) k k) (List.replicate k 64) wr (H1.out.2.perm (by ac_rfl)) (by
        intro w' h
        refine ⟨_, _, by rw [List.length_replicate], fun _ => ⟨g, 0, rfl, fun j x hx => ?_⟩⟩
        have hj := (List.getElem?_eq_some_iff.1 hx).1
        rw [List.length_replicate] at hj
        rw [List.getElem?_replicate, if_pos hj] at hx
        obtain rfl := Option.some.inj hx
        rw [cells_at h.block, Nat.mul_one, Nat.zero_add]
        exact HC.out j hj))
      have HF := Lib.hid (show DiskM.cutN D (List.replicate k 64) D.pending.length = D.flush from flush_cutN HW.out _ (by
        intro j hj
        have h1 : D.pending.length ≤ D.n := penK_le D D.n
        rw [List.getD_eq_getElem?_getD, List.getElem?_replicate, if_pos (by rw [← HN.out]; omega)]; rfl))
      clear hlt hk hcz
      go_wp2_with (go_at_call 54; refine HS.out.mono ?_; rintro e w5 ⟨rfl, h5⟩; rw [HF.out] at h5)
      go_end0
      exact ⟨rfl, H1.out.1.trans h5.out.1, ((h5.out.2.perm (show _ = pts g (.cells cur TIn (0, 0)) * (refD RT p D.flush * F) from by ac_rfl)).right)⟩
structure CtSt (w : World) (p : Nat) (ao : Option Addr) (n cap : Nat) (C : DiskM) (F : HProp) (i : Value) (wr : World) : Prop where
  st : ∃ (k : Nat) (L : List SecV), k ≤ n ∧ i = .int .i64 (k : Int) ∧ L.length = n ∧ RefOf (armK C k) L ∧ Hid (Same w wr ∧ Sat wr (refA p ao n cap L F))
set_option maxRecDepth 20000 in
set_option maxHeartbeats 4000000 in
theorem rcut_any (p : Nat) (D : DiskM) (F : HProp) (pv : Value) (picks : List Int) (w : World) (hS : Sat w (refD RT p D * F)) (hpk : ∀ w', Sat w' F → IntsAt w' pv picks) :
    Calls Try.prog 37 #[.pointer (some ⟨p, 0, none⟩), pv] w fun e w' => e = .returned (.tuple #[]) ∧ Hid (Same w w' ∧ Sat w' (refD RT p (D.cut picks) * F)) := by
  have hwf : D.WF := by obtain ⟨_, _, ⟨h, _⟩, _⟩ := refD_iff.1 hS; exact h
  have HS := Lib.hid (rsettle_any p D F pv picks w hS hpk)
  have HE := Lib.hid (show armK (DiskM.cutN D picks D.pending.length) (DiskM.cutN D picks D.pending.length).n = D.cut picks from by rw [armK_all (hwf.cutN picks _)]; exact DiskM.cutN_all D hwf picks)
  have HWC := Lib.hid (hwf.cut picks)
  have HWN := Lib.hid (hwf.cutN picks D.pending.length)
  obtain ⟨E, hE⟩ : ∃ E, Hid (D.cut picks = E) := ⟨_, Lib.hid rfl⟩
  rw [hE.out] at HE HWC ⊢
  generalize DiskM.cutN D picks D.pending.length = C at HS HE HWN
  clear hS hpk hwf
  go_enter Try.func37, Try.ntmps37
  go_upto_region 1 with (go_at_call 54; refine HS.out.mono ?_; rintro e w1 ⟨rfl, h1⟩)
  obtain ⟨v, L, ⟨_, hr⟩, hs⟩ := refD_iff.1 h1.out.2
  obtain ⟨ao, cap, rfl⟩ := ownAt_slice hs.right
  obtain ⟨n, hn⟩ : ∃ n, L.length = n := ⟨_, rfl⟩
  have hCn : C.n = n := by rw [← hr.len]; exact hn
  have hn6 : n ≤ 65536 := by rw [← hCn]; exact HWN.out.small
  have hs1 : Sat w1 (refA p ao n cap L F) := by unfold refA; rw [hn] at hs ⊢; exact hs
  have H0 := Lib.hid (show CtSt w p ao n cap C F (.int .i64 0) w1 from ⟨0, L, Nat.zero_le _, rfl, hn, by rw [armK_zero]; exact hr, h1.out.1, hs1⟩)
  rw [hCn] at HE
  clear hs hs1 hr hn h1 hCn HS
  go_upto_region 2 with (fail)
  go_loopw [4] (fun i wr => CtSt w p ao n cap C F i wr) (fun i _ => n - (intOf i).toNat)
  case atStart => exact H0.out
  case round =>
    clear H0
    obtain ⟨k, L, hk, rfl, hn, hr, H1⟩ := hrel.st
    clear hrel
    have c0 : wr.cell? ⟨p, 0, none⟩ = some (.slice ao n cap) := cells_at (Sat.block H1.out.2) 0
    by_cases hlt : k < n
    · have hltd : decide (k < n) = true := decide_eq_true hlt
      have hki : (k : Int) < (n : Int) := by omega
      have hk0 : (0 : Int) ≤ (k : Int) := by omega
      have hk6 : (k : Int) ≤ 65536 := by omega
      have hw1 : IntKind.i64.wrap ((k : Int) + 1) = (k : Int) + 1 := IntWalk.i64_in _ (by omega)
      obtain ⟨x, hx⟩ : ∃ x, L[k]? = some x := ⟨_, List.getElem?_eq_getElem (by omega)⟩
      obtain ⟨g, rfl, -⟩ := sec_cells (Sat.right H1.out.2) hx
      have ho : Sat wr (refO p g n cap L F) := H1.out.2
      obtain ⟨-, -, -, -, e3, ff⟩ := refO_cells ho hx
      have f3 := ff (k * 4 + 3)
      have HNX := Lib.hid (show Same w (wr.setCell ⟨g, k * 4 + 3, none⟩ (.int .i64 (-2))) ∧ Sat (wr.setCell ⟨g, k * 4 + 3, none⟩ (.int .i64 (-2))) (refA p (some ⟨g, 0, none⟩) n cap (L.set k (x.1.arm (-2), x.2)) F) from ⟨H1.out.1.setCell _ _, refO_arm ho hx (-2)⟩)
      have HR := Lib.hid (show RefOf (armK C (k + 1)) (L.set k (x.1.arm (-2), x.2)) from by have h := hr.arm hx none; rw [armK_succ] at h; exact h)
      have HL := Lib.hid (And.intro hlt hn)
      clear ho hx hr hn ff hlt hk H1
      go_wp2
      go_roundw
      case rel => exact ⟨⟨k + 1, _, HL.out.1, rfl, by rw [List.length_set]; exact HL.out.2, HR.out, HNX.out⟩⟩
      case measure => have := HL.out; simp only [intOf]; omega
    · obtain rfl : k = n := by omega
      have hltd : decide (k < k) = false := decide_eq_false (by omega)
      rw [HE.out] at hr
      have HF := Lib.hid (refA_refD HWC.out hr H1.out.2)
      clear hr hlt hk hn
      go_wp2
      go_end0
      exact ⟨rfl, H1.out.1, HF.out⟩
end Go.Proofs.Ytdeblpnkpefbcaa
