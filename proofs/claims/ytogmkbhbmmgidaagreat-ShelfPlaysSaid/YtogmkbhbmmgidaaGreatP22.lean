import Derived.Test.YtogmkbhbmmgidaaGreatP21
import Derived.Test.YtogmkbhbmmgidaaGreatP10
import Derived.Test.YtogmkbhbmmgidaaGreatP08
/- Part 22 of a proof; the last part says what is proved. -/
section
namespace Go.Sl
open Go Go.RowKit
def ShelfM.tick (S : ShelfM) : ShelfM × Int := if S.fused then (if S.left = 0 then ({ S with off := true, fused := false }, 14) else ({ S with left := S.left - 1 }, 0)) else (S, 0)
theorem ShelfM.step_acc {S : ShelfM} {d : Int} (f : DiskM → DiskM) (h : S.access d ≠ 0) : S.step d f = (S, S.access d) := by
  unfold ShelfM.access at h ⊢
  unfold ShelfM.step
  split
  · rfl
  · rename_i ho
    rw [if_neg ho] at h
    split
    · rename_i h1; first | rfl | rw [if_neg h1]
    · rename_i h1; exact absurd (if_pos (by simpa using h1)) h
theorem ShelfM.step_tick {S : ShelfM} {d : Int} (f : DiskM → DiskM) (h : S.access d = 0) : S.step d f = if S.tick.2 = 0 then (S.tick.1.setDisk d (f (S.disk d)), 0) else (S.tick.1, S.tick.2) := by
  unfold ShelfM.access at h
  have ho : ¬ S.off = true := fun e => by rw [if_pos e] at h; cases h
  rw [if_neg ho] at h
  have h1 : S.state d = 1 := by
    by_cases h1 : S.state d = 1
    · exact h1
    · rw [if_neg h1] at h; cases h
  unfold ShelfM.step ShelfM.tick
  rw [if_neg ho, if_neg (by rw [h1]; simp)]
  cases hf : S.fused with
  | false => simp
  | true =>
    by_cases hl : S.left = 0
    · simp [hl]
    · simp [hl]
theorem ShelfM.tick_bays (S : ShelfM) : S.tick.1.bays = S.bays ∧ S.tick.1.cfg = S.cfg ∧ S.tick.1.images = S.images := by
  unfold ShelfM.tick
  split
  · split
    · exact ⟨rfl, rfl, rfl⟩
    · exact ⟨rfl, rfl, rfl⟩
  · exact ⟨rfl, rfl, rfl⟩
theorem ShelfM.tick_bay (S : ShelfM) (d : Int) : S.tick.1.state d = S.state d ∧ S.tick.1.disk d = S.disk d := by
  unfold ShelfM.state ShelfM.disk ShelfM.bay
  rw [S.tick_bays.1]
  exact ⟨rfl, rfl⟩
theorem ShelfM.tick_wf {S : ShelfM} (h : S.WF) : S.tick.1.WF := by
  obtain ⟨h1, h2, h3⟩ := S.tick_bays
  refine ⟨by rw [h2]; exact h.cfg, by rw [h1, h2]; exact h.bays, by rw [h1, h2]; exact h.st, by rw [h3, h2]; exact h.images, ?_⟩
  unfold ShelfM.tick
  cases hf : S.fused with
  | false => intro h4; simp [hf] at h4
  | true =>
    have := h.left hf
    by_cases hl : S.left = 0
    · simp [hl]
    · simp [hl]; omega
end Go.Sl
namespace Go.Proofs.YtogmkbhbmmgidaaGreat
open Go.RowKit Go.Sl Go.ChangeMaps
set_option maxHeartbeats 1000000 in
theorem rready_any (p : Nat) (S : ShelfM) (F : HProp) (k : Nat) (hk : k < S.bays.length) (w : World) (hS : Sat w (rshAt RS p S * F)) :
    Calls Tryz.prog 82 #[.pointer (some ⟨p, 0, none⟩), .int .i64 (k : Int)] w fun e w' => e = .returned (.int .i64 (S.access k)) ∧ w = w' := by
  obtain ⟨_, c9, _⟩ := rsh_cfg hS
  obtain ⟨g, capb, gs, caps, q, R, ⟨_, c7⟩, ⟨_, cs⟩, _⟩ := rsh_bay hS hk
  have hacc : S.access (k : Int) = if S.off then 14 else if S.state k = 1 then 0 else 15 := rfl
  obtain ⟨n, hn⟩ : ∃ n, S.bays.length = n := ⟨_, rfl⟩
  rw [hn] at c7 hk
  have hki : (k : Int) < (n : Int) := by omega
  have hk0 : (0 : Int) ≤ (k : Int) := by omega
  obtain ⟨x, hx⟩ : ∃ x, S.access (k : Int) = x := ⟨_, rfl⟩
  rw [hx] at hacc ⊢
  obtain ⟨st, hst⟩ : ∃ st, S.state (k : Int) = st := ⟨_, rfl⟩
  rw [hst] at hacc cs
  clear hx hst hn hS hk
  cases ho : S.off with
  | true =>
    rw [ho] at hacc c9
    obtain rfl : x = 14 := hacc
    clear ho
    go_enter Tryz.func82, Tryz.ntmps82
    go_wp2
    go_ret
    exact ⟨rfl, rfl⟩
  | false =>
    rw [ho] at hacc c9
    by_cases h1 : st = 1
    · subst h1
      obtain rfl : x = 0 := hacc
      clear ho
      go_enter Tryz.func82, Tryz.ntmps82
      go_wp2
      go_ret
      exact ⟨rfl, rfl⟩
    · have h2 : (st != 1) = true := by simp [h1]
      obtain rfl : x = 15 := by rw [hacc, if_neg (by decide), if_neg h1]
      clear ho h1 hacc
      go_enter Tryz.func82, Tryz.ntmps82
      go_wp2
      go_ret
      exact ⟨rfl, rfl⟩
set_option maxHeartbeats 1000000 in
theorem rstep_any (p : Nat) (S : ShelfM) (F : HProp) (w : World) (hS : Sat w (rshAt RS p S * F)) :
    Calls Tryz.prog 83 #[.pointer (some ⟨p, 0, none⟩)] w fun e w' => e = .returned (.int .i64 S.tick.2) ∧ Hid (Same w w' ∧ Sat w' (rshAt RS p S.tick.1 * F)) := by
  obtain ⟨vb, vs, vi, ps, qs, ⟨hwf, h1, h2⟩, hs⟩ := rshAt_iff.1 hS
  obtain ⟨⟨_, _, _, q9, q10⟩, hp, _⟩ := rs_cells hs
  have f9 := thawed_at hs.block 9
  have f10 := thawed_at hs.block 10
  have HS := Lib.hid hS
  have HSS := Lib.hid hs
  have HWF := Lib.hid (ShelfM.tick_wf hwf)
  have HL := Lib.hid (And.intro h1 h2)
  have htk : S.tick = if S.fused then (if S.left = 0 then ({ S with off := true, fused := false }, 14) else ({ S with left := S.left - 1 }, 0)) else (S, 0) := rfl
  have hlf := hwf.left
  unfold ShelfM.rleft at q10
  clear hS hs hwf h1 h2
  cases hfu : S.fused with
  | false =>
    rw [hfu] at htk q10
    simp only [Bool.false_eq_true, if_false] at htk q10
    rw [htk]
    clear htk hlf hfu
    go_enter Tryz.func83, Tryz.ntmps83
    go_wp2
    go_ret
    exact ⟨rfl, Same.refl w, HS.out⟩
  | true =>
    obtain ⟨hl0, hl1⟩ := hlf hfu
    rw [hfu] at htk q10
    simp only [if_true] at htk q10
    have HFU := Lib.hid hfu
    clear hlf hfu
    by_cases hl : S.left = 0
    · rw [if_pos hl] at htk
      rw [hl] at q10
      rw [htk] at HWF ⊢
      clear htk hl hl0 hl1
      go_enter Tryz.func83, Tryz.ntmps83
      go_wp2
      go_ret
      refine ⟨rfl, ((Same.refl w).setCell _ _).setCell _ _, rshAt_iff.2 ⟨vb, vs, vi, ps, qs, ⟨HWF.out, HL.out.1, HL.out.2⟩, ?_⟩⟩
      have h9 := (HSS.out.setCell (i := 9) (.bool false)).setCell (i := 10) (.int .i64 (-1))
      unfold rsC at h9
      simp only [List.setIfInBounds_toArray, List.set_cons_succ, List.set_cons_zero] at h9
      exact h9
    · rw [if_neg hl] at htk
      rw [htk] at HWF ⊢
      clear htk
      obtain ⟨lf, hlf⟩ : ∃ lf, S.left = lf := ⟨_, rfl⟩
      rw [hlf] at q10 hl hl0 hl1
      have hd0 : (lf == 0) = false := by simp [hl]
      have hd1 : decide (0 < lf) = true := decide_eq_true (by omega)
      have hw1 : IntKind.i64.wrap (lf - 1) = lf - 1 := IntWalk.i64_in _ (by omega)
      have HLF := Lib.hid hlf
      clear hlf hl
      go_enter Tryz.func83, Tryz.ntmps83
      go_wp2
      go_ret
      refine ⟨rfl, (Same.refl w).setCell _ _, rshAt_iff.2 ⟨vb, vs, vi, ps, qs, ⟨HWF.out, HL.out.1, HL.out.2⟩, ?_⟩⟩
      have h9 := HSS.out.setCell (i := 10) (.int .i64 (lf - 1))
      unfold rsC at h9
      simp only [List.setIfInBounds_toArray, List.set_cons_succ, List.set_cons_zero] at h9
      unfold rsC ShelfM.rleft
      dsimp only
      first | rw [HFU.out, if_pos rfl, HLF.out] | rw [if_pos rfl, HLF.out]
      exact h9
theorem fuse_left (S : ShelfM) (n : Int) : (S.fuse n).rleft = max n (-1) := by
  unfold ShelfM.fuse ShelfM.rleft
  dsimp only
  by_cases h : 0 ≤ n
  · rw [decide_eq_true h, if_pos rfl]; omega
  · rw [decide_eq_false h, if_neg (by decide)]; omega
theorem fuse_wf {S : ShelfM} (h : S.WF) {n : Int} (hn : n < 9223372036854775808) : (S.fuse n).WF := ⟨h.cfg, h.bays, h.st, h.images, fun hf => by
  unfold ShelfM.fuse at hf ⊢
  simp at hf ⊢
  omega⟩
set_option maxHeartbeats 1000000 in
theorem rfuse_any (p : Nat) (S : ShelfM) (F : HProp) (n : Int) (hn : n < 9223372036854775808) (w : World) (hS : Sat w (rshAt RS p S * F)) :
    Calls Tryz.prog 41 #[.pointer (some ⟨p, 0, none⟩), .int .i64 n] w fun e w' => e = .returned (.tuple #[]) ∧ Hid (Same w w' ∧ Sat w' (rshAt RS p (S.fuse n) * F)) := by
  obtain ⟨vb, vs, vi, ps, qs, ⟨hwf, h1, h2⟩, hs⟩ := rshAt_iff.1 hS
  obtain ⟨⟨_, _, _, q9, q10⟩, hp, _⟩ := rs_cells hs
  have f10 := thawed_at hs.block 10
  have HSS := Lib.hid hs
  have HWF := Lib.hid (fuse_wf hwf hn)
  have HL := Lib.hid (And.intro h1 h2)
  have HFL := Lib.hid (fuse_left S n)
  clear hS hs hwf h1 h2 hn
  by_cases h0 : n ≤ -1
  · have hm : max n (-1) = -1 := by omega
    have hm2 : decide (n < -1) = decide (n < -1) := rfl
    rw [hm] at HFL
    go_enter Tryz.func41, Tryz.ntmps41
    go_wp2
    go_end0
    refine ⟨rfl, (Same.refl w).setCell _ _, rshAt_iff.2 ⟨vb, vs, vi, ps, qs, ⟨HWF.out, HL.out.1, HL.out.2⟩, ?_⟩⟩
    have h9 := HSS.out.setCell (i := 10) (.int .i64 (-1))
    unfold rsC at h9
    simp only [List.setIfInBounds_toArray, List.set_cons_succ, List.set_cons_zero] at h9
    rw [HFL.out]
    exact h9
  · have hm : max n (-1) = n := by omega
    rw [hm] at HFL
    go_enter Tryz.func41, Tryz.ntmps41
    go_wp2
    go_end0
    refine ⟨rfl, (Same.refl w).setCell _ _, rshAt_iff.2 ⟨vb, vs, vi, ps, qs, ⟨HWF.out, HL.out.1, HL.out.2⟩, ?_⟩⟩
    have h9 := HSS.out.setCell (i := 10) (.int .i64 n)
    unfold rsC at h9
    simp only [List.setIfInBounds_toArray, List.set_cons_succ, List.set_cons_zero] at h9
    rw [HFL.out]
    exact h9
end Go.Proofs.YtogmkbhbmmgidaaGreat
end
section
namespace Go.Proofs.YtogmkbhbmmgidaaGreat
open Go.RowKit Go.Sl Go.ChangeMaps
theorem rsh_states {p : Nat} {S : ShelfM} {F : HProp} {w : World} {k : Nat} {vb vs vi : Value} {ps qs : List Nat} {q : Nat} {R : HProp} {D : DiskM} (ho : RshOpen S k ps qs q R) (h : Sat w (rshO p S vb vs vi ps qs q D R F)) :
    ∃ gs caps, vs = .slice (some ⟨gs, 0, none⟩) S.bays.length caps ∧ w.cell? ⟨p, 7, none⟩ = some vs ∧ w.cell? ⟨gs, k, none⟩ = some (.int .i64 (S.state k)) ∧ w.frozen? ⟨gs, k, none⟩ = false := by
  have hk := (List.getElem?_eq_some_iff.1 ho.bay).1
  unfold rshO at h
  obtain ⟨⟨_, q7, _, _, _⟩, _, _⟩ := rs_cells h
  have h1 := h.perm (show _ = ownAt 3 1 vs S.bays.length (S.bays.map stV) * (pts p (.cells (rsC S.cfg vb vs vi (!S.off) S.rleft) TRsh (0, 0)) * (ownAt TRp 1 vb S.bays.length (ps.map ptrV) * (ownAt TRp 1 vi S.images.length (qs.map ptrV) * (refD RT q D * (R * (refsT RT qs S.images * F)))))) from by ac_rfl)
  obtain ⟨gs, cap, cur, rfl, _, hc, hf, _⟩ := ownAt_block h1 (by omega)
  exact ⟨gs, cap, rfl, q7, hc k _ (by rw [List.getElem?_map, ho.bay]; rfl), hf k⟩
set_option maxHeartbeats 1000000 in
theorem rkill_any (p : Nat) (S : ShelfM) (F : HProp) (d : Int) (w : World) (hS : Sat w (rshAt RS p S * F)) :
    Calls Tryz.prog 43 #[.pointer (some ⟨p, 0, none⟩), .int .i64 d] w fun e w' => e = .returned (.int .i64 (S.kill d).2) ∧ Hid (Same w w' ∧ Sat w' (rshAt RS p (S.kill d).1 * F)) := by
  have hwf := rshAt_wf hS
  have HST := Lib.hid (rstate_any p S F d w hS)
  have HS := Lib.hid hS
  by_cases h0 : S.state d = 0
  · have hk : S.kill d = (S, 1) := by unfold ShelfM.kill ShelfM.want; rw [if_pos h0]; rfl
    rw [hk]
    rw [h0] at HST
    clear hk h0 hwf hS
    go_enter Tryz.func43, Tryz.ntmps43
    go_wp2_with (go_at_call 53; refine HST.out.mono ?_; rintro e w1 ⟨rfl, rfl⟩)
    go_ret
    exact ⟨rfl, Same.refl w, HS.out⟩
  · obtain ⟨hd0, hd1⟩ := ShelfM.state_in hwf h0
    obtain ⟨k, rfl⟩ := Int.eq_ofNat_of_zero_le hd0
    obtain ⟨vb, vs, vi, ps, qs, q, R, ho, hs⟩ := rsh_open hS (k := k) (by omega)
    obtain ⟨gs, caps, rfl, c7, cs, fs⟩ := rsh_states ho hs
    have hkd : S.kill (k : Int) = if S.state k = 1 then (S.setBay k ⟨S.disk k, 3⟩, 0) else (S, 15) := by
      unfold ShelfM.kill ShelfM.want
      rw [if_neg h0]
      by_cases h1 : S.state k = 1
      · rw [if_pos h1, decide_eq_true h1]; simp
      · rw [if_neg h1, decide_eq_false h1]; simp
    have HWF := Lib.hid hwf
    have HO := Lib.hid (And.intro ho hs)
    obtain ⟨n, hn⟩ : ∃ n, S.bays.length = n := ⟨_, rfl⟩
    rw [hn] at c7 hd1
    have HN := Lib.hid hn
    obtain ⟨st, hst⟩ : ∃ st, S.state (k : Int) = st := ⟨_, rfl⟩
    rw [hst] at cs h0 hkd HST
    rw [hkd]
    have e0 : (st == 0) = false := by simp [h0]
    have HH := Lib.hid hst
    clear hs ho hwf hS hn hkd hst h0
    by_cases h1 : st = 1
    · subst h1
      rw [if_pos rfl]
      go_enter Tryz.func43, Tryz.ntmps43
      go_wp2_with (go_at_call 53; refine HST.out.mono ?_; rintro e w1 ⟨rfl, rfl⟩)
      go_ret
      refine ⟨rfl, (Same.refl w).setCell _ _, rsh_state HO.out.1 3 HN.out (HWF.out.setBay _ ⟨.inr (.inr rfl), fun h => by cases h⟩) (by have := HO.out.2; rwa [HN.out] at this)⟩
    · have e1 : (st != 1) = true := by simp [h1]
      rw [if_neg h1]
      clear h1
      go_enter Tryz.func43, Tryz.ntmps43
      go_wp2_with (go_at_call 53; refine HST.out.mono ?_; rintro e w1 ⟨rfl, rfl⟩)
      go_ret
      exact ⟨rfl, Same.refl w, HS.out⟩
end Go.Proofs.YtogmkbhbmmgidaaGreat
end
section
namespace Go.Sl
open Go Go.RowKit
theorem secsT_split (TB : TypeId) : ∀ (L : List SecV) (k : Nat), k < L.length → ∃ R, ∀ x, secsT TB (L.set k x) = secB TB x * R
  | _ :: r, 0, _ => ⟨secsT TB r, fun _ => rfl⟩
  | x :: r, k + 1, h => by
    obtain ⟨R, hR⟩ := secsT_split TB r k (by simpa using h)
    refine ⟨secB TB x * R, fun y => ?_⟩
    show secB TB x * secsT TB (r.set k y) = _
    rw [hR]; ac_rfl
theorem flat_set4 {α : Type} (enc : α → List Value) (m : Nat) (hm : ∀ x, (enc x).length = m) : ∀ (l : List α) (i : Nat) (x x' : α), l[i]? = some x → ∀ (j : Nat) (u : Value), j < m → enc x' = (enc x).set j u → (l.flatMap enc).set (i * m + j) u = (l.set i x').flatMap enc
  | [], i, x, _, h, _, _, _, _ => by simp at h
  | a :: l, 0, x, x', h, j, u, hj, he => by
    simp only [List.getElem?_cons_zero, Option.some.injEq] at h
    subst h
    rw [List.flatMap_cons, Nat.zero_mul, Nat.zero_add, List.set_append_left _ _ (by rw [hm]; exact hj), List.set_cons_zero, List.flatMap_cons, he]
  | a :: l, i + 1, x, x', h, j, u, hj, he => by
    simp only [List.getElem?_cons_succ] at h
    have e : (i + 1) * m + j = (enc a).length + (i * m + j) := by rw [hm, Nat.succ_mul]; omega
    rw [List.flatMap_cons, e, List.set_append_right _ _ (Nat.le_add_right _ _), Nat.add_sub_cancel_left, flat_set4 enc m hm l i x x' h j u hj he, List.set_cons_succ, List.flatMap_cons]
theorem sec_store {T : TypeId} {w : World} {g n cap : Nat} {L : List SecV} {F : HProp} (h : Sat w (ownAt T 4 (.slice (some ⟨g, 0, none⟩) n cap) L.length (L.flatMap secE) * F)) {k : Nat} {x : SecV} (hx : L[k]? = some x) (x' : SecV) (j : Nat) (u : Value) (hj : j < 4) (he : secE x' = (secE x).set j u) :
    Sat (w.setCell ⟨g, k * 4 + j, none⟩ u) (ownAt T 4 (.slice (some ⟨g, 0, none⟩) n cap) (L.set k x').length ((L.set k x').flatMap secE) * F) := by
  have hk := (List.getElem?_eq_some_iff.1 hx).1
  obtain ⟨g', cap', cur, e, _, _, _, _, _⟩ := ownAt_block h (by omega)
  have e2 := e
  simp only [Value.slice.injEq] at e2
  have h2 := ownAt_set h (by omega) (g := g) (cap := cap) (by rw [e2.2.1]) (j := k * 4 + j) u
  rw [flat_set4 secE 4 secE_len L k x x' hx j u hj he] at h2
  rw [List.length_set]; exact h2
theorem sec_thawed {T : TypeId} {w : World} {g n cap : Nat} {L : List SecV} {F : HProp} (h : Sat w (ownAt T 4 (.slice (some ⟨g, 0, none⟩) n cap) L.length (L.flatMap secE) * F)) (hn : 0 < L.length) (j : Nat) : w.frozen? ⟨g, j, none⟩ = false := by
  obtain ⟨g', cap', cur, e, _, _, hf, _, _⟩ := ownAt_block h hn
  simp only [Value.slice.injEq, Option.some.injEq, Addr.mk.injEq] at e
  rw [e.1.1]; exact hf j
theorem set_get {α : Type} {L : List α} {k i : Nat} {x y : α} (h : (L.set k x)[i]? = some y) : (i = k ∧ y = x) ∨ (i ≠ k ∧ L[i]? = some y) := by
  rw [List.getElem?_set] at h
  split at h
  · rename_i e
    split at h
    · exact .inl ⟨e.symm, (Option.some.inj h).symm⟩
    · cases h
  · rename_i e; exact .inr ⟨fun h => e h.symm, h⟩
def armI (o : Option Int) : Int := match o with
  | none => -2
  | some j => j
def SecM.arm (x : SecM) (f : Int) : SecM := { x with fault := f }
def SecM.put (x : SecM) (s : List UInt8) : SecM := { x with cac := s, pend := true }
def SecM.settle (x : SecM) (t : List UInt8) : SecM := { x with dur := t, pend := false }
theorem RefOf.arm {D : DiskM} {L : List SecV} (h : RefOf D L) {k : Nat} {x : SecV} (hx : L[k]? = some x) (o : Option Int) : RefOf { D with armed := fupd D.armed k o } (L.set k (x.1.arm (armI o), x.2)) := by
  refine ⟨by rw [List.length_set]; exact h.len, fun i y hy => ?_, fun i y hy => ?_, fun i y s hy hs => ?_, fun i y hy => ?_, fun i y hy => ?_⟩
  · rcases set_get hy with ⟨rfl, rfl⟩ | ⟨_, h2⟩
    · exact h.dur i x hx
    · exact h.dur i y h2
  · rcases set_get hy with ⟨rfl, rfl⟩ | ⟨_, h2⟩
    · exact h.pend i x hx
    · exact h.pend i y h2
  · rcases set_get hy with ⟨rfl, rfl⟩ | ⟨_, h2⟩
    · exact h.cac i x s hx hs
    · exact h.cac i y s h2 hs
  · rcases set_get hy with ⟨rfl, rfl⟩ | ⟨hne, h2⟩
    · show armI o = (match fupd D.armed i o i with | none => -2 | some j => j)
      unfold fupd; rw [if_pos rfl]; rfl
    · rw [h.fault i y h2]
      show (match D.armed i with | none => -2 | some j => j) = (match fupd D.armed k o i with | none => -2 | some j => j)
      unfold fupd; rw [if_neg hne]
  · rcases set_get hy with ⟨rfl, rfl⟩ | ⟨_, h2⟩
    · exact h.clen i x hx
    · exact h.clen i y h2
theorem RefOf.put {D : DiskM} {L : List SecV} (h : RefOf D L) {k : Nat} {x : SecV} (hx : L[k]? = some x) (s : List UInt8) (hl : s.length ≤ 64) (v : Value) : RefOf { D with cache := fupd D.cache k (some s) } (L.set k (x.1.put s, x.2.1, v)) := by
  refine ⟨by rw [List.length_set]; exact h.len, fun i y hy => ?_, fun i y hy => ?_, fun i y t hy hs => ?_, fun i y hy => ?_, fun i y hy => ?_⟩
  · rcases set_get hy with ⟨rfl, rfl⟩ | ⟨_, h2⟩
    · exact h.dur i x hx
    · exact h.dur i y h2
  · rcases set_get hy with ⟨rfl, rfl⟩ | ⟨hne, h2⟩
    · show true = (fupd D.cache i (some s) i).isSome
      unfold fupd; rw [if_pos rfl]; rfl
    · rw [h.pend i y h2]
      show _ = (fupd D.cache k (some s) i).isSome
      unfold fupd; rw [if_neg hne]
  · rcases set_get hy with ⟨rfl, rfl⟩ | ⟨hne, h2⟩
    · have hs' : fupd D.cache i (some s) i = some t := hs
      unfold fupd at hs'; rw [if_pos rfl] at hs'
      exact Option.some.inj hs'
    · have hs' : fupd D.cache k (some s) i = some t := hs
      unfold fupd at hs'; rw [if_neg hne] at hs'
      exact h.cac i y t h2 hs'
  · rcases set_get hy with ⟨rfl, rfl⟩ | ⟨_, h2⟩
    · exact h.fault i x hx
    · exact h.fault i y h2
  · rcases set_get hy with ⟨rfl, rfl⟩ | ⟨_, h2⟩
    · exact hl
    · exact h.clen i y h2
theorem RefOf.settle {D : DiskM} {L : List SecV} (h : RefOf D L) {k : Nat} {x : SecV} (hx : L[k]? = some x) (t : List UInt8) (v : Value) : RefOf { D with dur := fupd D.dur k t, cache := fupd D.cache k none } (L.set k (x.1.settle t, v, x.2.2)) := by
  refine ⟨by rw [List.length_set]; exact h.len, fun i y hy => ?_, fun i y hy => ?_, fun i y s hy hs => ?_, fun i y hy => ?_, fun i y hy => ?_⟩
  · rcases set_get hy with ⟨rfl, rfl⟩ | ⟨hne, h2⟩
    · show t = fupd D.dur i t i
      unfold fupd; rw [if_pos rfl]
    · rw [h.dur i y h2]
      show _ = fupd D.dur k t i
      unfold fupd; rw [if_neg hne]
  · rcases set_get hy with ⟨rfl, rfl⟩ | ⟨hne, h2⟩
    · show false = (fupd D.cache i none i).isSome
      unfold fupd; rw [if_pos rfl]; rfl
    · rw [h.pend i y h2]
      show _ = (fupd D.cache k none i).isSome
      unfold fupd; rw [if_neg hne]
  · rcases set_get hy with ⟨rfl, rfl⟩ | ⟨hne, h2⟩
    · have hs' : fupd D.cache i none i = some s := hs
      unfold fupd at hs'; rw [if_pos rfl] at hs'; cases hs'
    · have hs' : fupd D.cache k none i = some s := hs
      unfold fupd at hs'; rw [if_neg hne] at hs'
      exact h.cac i y s h2 hs'
  · rcases set_get hy with ⟨rfl, rfl⟩ | ⟨_, h2⟩
    · exact h.fault i x hx
    · exact h.fault i y h2
  · rcases set_get hy with ⟨rfl, rfl⟩ | ⟨_, h2⟩
    · exact h.clen i x hx
    · exact h.clen i y h2
end Go.Sl
namespace Go.Proofs.YtogmkbhbmmgidaaGreat
open Go.RowKit Go.Sl Go.ChangeMaps
theorem ref_n {D : DiskM} {L : List SecV} (h : RefOf D L) (i : Int) : D.has i = (decide (0 ≤ i) && decide (i < (L.length : Int))) := by unfold DiskM.has; rw [h.len]
theorem in_true {i : Int} {n : Nat} (h : 0 ≤ i ∧ i < (n : Int)) : (decide (0 ≤ i) && decide (i < (n : Int))) = true := by rw [decide_eq_true h.1, decide_eq_true h.2]; rfl
theorem in_false {i : Int} {n : Nat} (h : ¬ (0 ≤ i ∧ i < (n : Int))) : (decide (0 ≤ i) && decide (i < (n : Int))) = false := by
  cases e : (decide (0 ≤ i) && decide (i < (n : Int)))
  · rfl
  · rw [Bool.and_eq_true, decide_eq_true_eq, decide_eq_true_eq] at e; exact absurd e h
def refO (p g n cap : Nat) (L : List SecV) (F : HProp) : HProp := pts p (.cells #[.slice (some ⟨g, 0, none⟩) n cap] TRk (0, 0)) * (ownAt TRs 4 (.slice (some ⟨g, 0, none⟩) n cap) L.length (L.flatMap secE) * (secsT TU8 L * F))
theorem refO_refD {p g n cap : Nat} {L : List SecV} {F : HProp} {D : DiskM} {w : World} (hwf : D.WF) (hr : RefOf D L) (h : Sat w (refO p g n cap L F)) : Sat w (refD RT p D * F) := refD_iff.2 ⟨_, L, ⟨hwf, hr⟩, h⟩
theorem refO_cells {p g n cap : Nat} {L : List SecV} {F : HProp} {w : World} (h : Sat w (refO p g n cap L F)) {k : Nat} {x : SecV} (hx : L[k]? = some x) :
    w.cell? ⟨p, 0, none⟩ = some (.slice (some ⟨g, 0, none⟩) n cap) ∧ w.cell? ⟨g, k * 4, none⟩ = some x.2.1 ∧ w.cell? ⟨g, k * 4 + 1, none⟩ = some x.2.2 ∧ w.cell? ⟨g, k * 4 + 2, none⟩ = some (.bool x.1.pend) ∧ w.cell? ⟨g, k * 4 + 3, none⟩ = some (.int .i64 x.1.fault) ∧ ∀ j, w.frozen? ⟨g, j, none⟩ = false := by
  obtain ⟨g', e, e0, e1, e2, e3⟩ := sec_cells (Sat.right h) hx
  simp only [Option.some.injEq, Addr.mk.injEq, and_true] at e
  obtain rfl := e
  exact ⟨cells_at (Sat.block h) 0, e0, e1, e2, e3, fun j => sec_thawed (Sat.right h) (by have := (List.getElem?_eq_some_iff.1 hx).1; omega) j⟩
theorem refO_store {p g n cap : Nat} {L : List SecV} {F : HProp} {w : World} (h : Sat w (refO p g n cap L F)) {k : Nat} {x : SecV} (hx : L[k]? = some x) (x' : SecV) (j : Nat) (u : Value) (hj : j < 4) (he : secE x' = (secE x).set j u) {G : HProp} (hG : secB TU8 x * F = secB TU8 x' * G) : Sat (w.setCell ⟨g, k * 4 + j, none⟩ u) (refO p g n cap (L.set k x') G) := by
  have hk := (List.getElem?_eq_some_iff.1 hx).1
  obtain ⟨R, hR⟩ := secsT_split TU8 L k hk
  have e := hR x
  rw [set_self hx] at e
  unfold refO at h ⊢
  have h1 := sec_store (h.perm (show _ = ownAt TRs 4 (.slice (some ⟨g, 0, none⟩) n cap) L.length (L.flatMap secE) * (pts p (.cells #[.slice (some ⟨g, 0, none⟩) n cap] TRk (0, 0)) * (secsT TU8 L * F)) from by ac_rfl)) hx x' j u hj he
  rw [e] at h1
  rw [hR]
  refine h1.perm ?_
  have e2 : secB TU8 x * R * F = secB TU8 x' * R * G := by
    rw [show secB TU8 x * R * F = R * (secB TU8 x * F) from by ac_rfl, hG]; ac_rfl
  rw [e2]; ac_rfl
theorem refO_drop {p g n cap : Nat} {L : List SecV} {R F : HProp} {w : World} (h : Sat w (refO p g n cap L (R * F))) : Sat w (refO p g n cap L F) := by
  unfold refO at h ⊢
  exact (h.perm (show _ = R * (pts p (.cells #[.slice (some ⟨g, 0, none⟩) n cap] TRk (0, 0)) * (ownAt TRs 4 (.slice (some ⟨g, 0, none⟩) n cap) L.length (L.flatMap secE) * (secsT TU8 L * F))) from by ac_rfl)).right
theorem refO_arm {p g n cap : Nat} {L : List SecV} {F : HProp} {w : World} (h : Sat w (refO p g n cap L F)) {k : Nat} {x : SecV} (hx : L[k]? = some x) (f : Int) : Sat (w.setCell ⟨g, k * 4 + 3, none⟩ (.int .i64 f)) (refO p g n cap (L.set k (x.1.arm f, x.2)) F) :=
  refO_store h hx (x.1.arm f, x.2) 3 (.int .i64 f) (by omega) rfl rfl
def cacd (x : SecM) (s : List UInt8) : SecM := { x with cac := s }
theorem secB_cac (x : SecV) (s : List UInt8) (v : Value) (F : HProp) : secB TU8 x * (rowB TU8 v s * F) = secB TU8 (cacd x.1 s, x.2.1, v) * (rowB TU8 x.2.2 x.1.cac * F) := by
  show rowB TU8 x.2.1 x.1.dur * rowB TU8 x.2.2 x.1.cac * (rowB TU8 v s * F) = rowB TU8 x.2.1 x.1.dur * rowB TU8 v s * (rowB TU8 x.2.2 x.1.cac * F)
  ac_rfl
theorem conv_new (s : List UInt8) (W : World) {P : HProp} (h : Sat W P) : ∃ W' cap, (convert 9 51 (.string (strW s))).run Tryz.prog W = .ok (.slice (some ⟨W.heap.size, 0, none⟩) s.length cap) W' ∧
    Same W W' ∧ Sat W' (rowB TU8 (.slice (some ⟨W.heap.size, 0, none⟩) s.length cap) s * P) := by
  have hr := run_bytes_of_string (P := Tryz.prog) W 9 51 5 (strW s) Tryz.underlying9 Tryz.underlying51 Tryz.underlying5
  have hsz : (strW s).size = s.length := by show s.toArray.size = _; simp
  rw [hsz] at hr
  refine ⟨_, _, hr, ((Same.refl W).drew).alloc _, rowB_iff.2 (.inr ⟨W.heap.size, _, _, _, ⟨rfl, by have := grownCap_ge W (strW s).size 0 5; rw [hsz] at this; exact this, fun j u hu => ?_⟩, h.drew.alloc _⟩)⟩
  have hj : j < s.length := by have := (List.getElem?_eq_some_iff.1 hu).1; simpa [bytesL] using this
  simp only [bytesL, List.getElem?_map] at hu
  unfold bytesRow
  rw [Array.getElem?_append_left (by simpa [strW] using hj)]
  simpa [strW] using hu
end Go.Proofs.YtogmkbhbmmgidaaGreat
end
