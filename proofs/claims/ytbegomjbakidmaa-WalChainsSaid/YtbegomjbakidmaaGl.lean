import Derived.Test.YtbegomjbakidmaaGi
import Derived.Shelf.Abstract
import Derived.WalkKit
import Derived.OwnWalkIn
import Derived.TacticsInMore
import Derived.LoopNIn
import Derived.LoopIn
import Derived.Sort.CutIn
import Derived.Test.YtbegomjbakidmaaRi
import Derived.Test.YtbegomjbakidmaaGr
/- wal.next, in one; wal.Scan. -/
namespace Go.Proofs.Ytbegomjbakidmaa
open Go.RowKit Go.Sl Go.ChangeMaps

theorem wnext_any (p : Nat) (S : ShelfM) (F : HProp) (d : Int) (N : Nat) (f : Nat → List UInt8) (hN : (N : Int) = logN S.cfg) (hd : 0 ≤ d ∧ d < 64) (hr : ReadsL S d N f) (hl : ∀ j, j < N → (f j).length = 64) (t : TailM) (htn : 0 ≤ t.next ∧ t.next ≤ 2147483647) (hnu : 0 ≤ t.number ∧ t.number ≤ 4294967295) (w : World) (hS : Sat w (shelfAt SH p S * F)) :
    Calls Try.prog 27 #[.pointer (some ⟨p, 0, none⟩), .int .i64 d, .agg (tailA t)] w (NextOut p S F t (nextL f N d t) w) := by
  obtain ⟨tn, nu, ⟨ge, gc⟩⟩ := t
  simp only at htn hnu
  obtain ⟨tn, rfl⟩ := Int.eq_ofNat_of_zero_le htn.1
  have hnx : nextL f N d ⟨(tn : Int), nu, ⟨ge, gc⟩⟩ = match readL f N d tn with
    | none => none
    | some x => if firstOK ⟨(tn : Int), nu, ⟨ge, gc⟩⟩ x then (restL f N d tn x 1 ((sizeM x.left).toNat - 1)).map fun r => (x.bytes ++ r, ⟨(tn : Int) + sizeM x.left, x.number, x.gen⟩) else none := rfl
  rw [hnx]
  cases h0 : readL f N d tn with
  | none => exact wnext_none p S F d N f hN hd hr hl tn nu ge gc (by omega) hnu h0 w hS
  | some x =>
    obtain ⟨⟨xg, xh⟩, ⟨xe, xf⟩, xn, xl, xb⟩ := x
    simp only
    by_cases hc : firstOK ⟨(tn : Int), nu, ⟨ge, gc⟩⟩ ⟨⟨xg, xh⟩, ⟨xe, xf⟩, xn, xl, xb⟩
    · rw [if_pos hc]
      obtain ⟨c1, c2, c3, c4⟩ := hc
      simp only [GenM.mk.injEq] at c1 c2 c3 c4
      exact wnext_loop p S F d N f hN hd hr hl tn nu ge gc (by omega) hnu xg xh xe xf xn xl xb h0 c1 c2 c3.1 c3.2 c4 w hS
    · rw [if_neg hc]
      refine wnext_fail p S F d N f hN hd hr hl tn nu ge gc (by omega) hnu xg xh xe xf xn xl xb h0 ?_ w hS
      rw [Bool.eq_false_iff]
      intro hh
      simp only [Bool.and_eq_true, beq_iff_eq, decide_eq_true_eq] at hh
      obtain ⟨⟨⟨⟨h1, h2⟩, h3⟩, h4⟩, h5⟩ := hh
      exact hc ⟨h1, h2, by simp only [h3, h4], h5⟩
theorem next_bound {f : Nat → List UInt8} {N : Nat} {d : Int} {t t1 : TailM} {r : List UInt8} (hN : N ≤ 65536) (h : nextL f N d t = some (r, t1)) (h0 : 0 ≤ t.next) : (0 ≤ t1.next ∧ t1.next ≤ 2147483647) ∧ (0 ≤ t1.number ∧ t1.number ≤ 4294967295) ∧ r.length ≤ 4108 := by
  unfold nextL at h
  cases hx : readL f N d t.next.toNat with
  | none => rw [hx] at h; cases h
  | some x =>
    rw [hx] at h
    simp only at h
    by_cases hc : firstOK t x
    · rw [if_pos hc] at h
      cases hr : restL f N d t.next.toNat x 1 ((sizeM x.left).toNat - 1) with
      | none => rw [hr] at h; cases h
      | some y =>
        rw [hr] at h
        simp only [Option.map_some, Option.some.injEq, Prod.mk.injEq] at h
        have hp := readL_part hx
        have hlt : t.next.toNat < N := by
          unfold readL at hx
          split at hx
          · cases hx
          · omega
        obtain ⟨_, _, _, hle⟩ := hc
        have hs1 := size_pos hp.left
        have hs : sizeM x.left ≤ 158 := by unfold sizeM; have := hp.left; rw [if_neg (by omega)]; omega
        have hlen : ∀ (k i : Nat) (z : List UInt8), restL f N d t.next.toNat x i k = some z → z.length ≤ 26 * k := by
          intro k
          induction k with
          | zero => intro i z hz; unfold restL at hz; cases hz; simp
          | succ k ih =>
            intro i z hz
            rw [restL_succ] at hz
            cases hq : readL f N d (t.next.toNat + i) with
            | none => rw [hq] at hz; cases hz
            | some q =>
              rw [hq] at hz
              simp only at hz
              split at hz
              · cases hz
              · cases hy : restL f N d t.next.toNat x (i + 1) k with
                | none => rw [hy] at hz; cases hz
                | some u =>
                  rw [hy] at hz
                  simp only [Option.map_some, Option.some.injEq] at hz
                  rw [← hz, List.length_append]
                  have := ih _ _ hy
                  have := (readL_part hq).bytes
                  omega
        have := hlen _ _ _ hr
        have := hp.bytes
        rw [← h.2, ← h.1]
        refine ⟨⟨by simp only; omega, by simp only; omega⟩, hp.num, by rw [List.length_append]; omega⟩
    · rw [if_neg hc] at h; cases h

/-! ### Scan -/
def strsL (l : List (List UInt8)) : List Value := l.map fun s => .string (strB s)
def ownS (v : Value) (l : List (List UInt8)) : HProp := ownAt TString 1 v l.length (strsL l)
def slen (v : Value) : Nat := match v with | .slice _ n _ => n | _ => 0
theorem infoStr3 : (Try.prog.info? TString).map (fun i => (i.zero, i.size, i.bytes)) = some (some (.string (strB [])), 1, 16) := by kernel_rfl
theorem scan_perm2 (N T G R O B C Z : HProp) : N * (T * (G * (R * ((O * (B * C)) * Z)))) = T * (G * (R * (O * (N * (B * (C * Z)))))) := by ac_rfl
theorem scan_perm3 (O B R : HProp) : O * B * R = B * (O * R) := by ac_rfl
theorem scan_perm (T O B Z R : HProp) : T * ((O * (B * Z)) * R) = Z * (T * (O * B * R)) := by ac_rfl
structure ScSt (w : World) (E : HProp) (f : Nat → List UInt8) (N : Nat) (d : Int) (l : List (List UInt8)) (t' : TailM) (v9 v10 : Value) (wr : World) : Prop where
  st : ∃ (acc rest : List (List UInt8)) (tc : TailM) (T : Nat), v10 = .pointer (some ⟨T, 0, none⟩) ∧ l = acc ++ rest ∧ ChainL f N d tc rest t' ∧ (0 ≤ tc.next ∧ tc.next ≤ 2147483647) ∧ (0 ≤ tc.number ∧ tc.number ≤ 4294967295) ∧ slen v9 = acc.length ∧
    Same w wr ∧ Sat wr (ownS v9 acc * (pts T (.cells (tailA tc) TTail (0, 0)) * E))
theorem tail_cells4 {w : World} {B : Nat} {t : TailM} {X : HProp} (h : Sat w (pts B (.cells (tailA t) TTail (0, 0)) * X)) : w.cell? ⟨B, 0, none⟩ = some (.int .i64 t.next) ∧ w.cell? ⟨B, 1, none⟩ = some (.int .i64 t.number) ∧ w.cell? ⟨B, 2, none⟩ = some (.int .i64 t.gen.epoch) ∧ w.cell? ⟨B, 3, none⟩ = some (.int .i64 t.gen.count) ∧ B < w.heap.size := by
  have h1 := cells_at h.block
  exact ⟨h1 0, h1 1, h1 2, h1 3, h.lt⟩
set_option maxHeartbeats 2000000 in
set_option maxRecDepth 20000 in
theorem scan_any (p : Nat) (S : ShelfM) (F : HProp) (d : Int) (N : Nat) (f : Nat → List UInt8) (hN : (N : Int) = logN S.cfg) (hd : 0 ≤ d ∧ d < S.cfg.disks) (hr : ReadsL S d N f) (hl : ∀ j, j < N → (f j).length = 64) (t : TailM) (ht : tailV t = true)
    (l : List (List UInt8)) (t' : TailM) (hsc : ScanL f N d t l t') (hll : l.length ≤ 100000) (w : World) (hS : Sat w (shelfAt SH p S * F)) :
    Calls Try.prog 12 #[.pointer (some ⟨p, 0, none⟩), .int .i64 d, .agg (tailA t)] w fun e w' => ∃ v, e = .returned (.tuple #[v, .agg (tailA t'), .int .i64 0]) ∧ Hid (Same w w' ∧ Sat w' (ownS v l * (shelfAt SH p S * F))) := by
  have hwf := (shelfAt_wf hS).cfg
  have hN2 : N ≤ 65536 := by have := hwf.log; unfold logN at hN; omega
  have hd64 : 0 ≤ d ∧ d < 64 := ⟨hd.1, by have := hwf.disks; omega⟩
  obtain ⟨hch, hend⟩ := hsc
  obtain ⟨b1, b2, b3, b4, _⟩ := tailV_iff.1 ht
  have HV := Lib.hid (show ∀ W X Y, Sat W (X * (Y * (shelfAt SH p S * F))) → Calls Try.prog 26 #[.pointer (some ⟨p, 0, none⟩), .int .i64 d, .agg (tailA t)] W fun e w' => e = .returned (.bool true) ∧ Below W.heap.size W w' from fun W X Y h => by
    have h1 := wvalid_any p S (X * (Y * F)) d t W (h.perm (by ac_rfl))
    rw [ht, decide_eq_true hd.1, decide_eq_true hd.2] at h1
    exact h1)
  have HN := Lib.hid (show ∀ (tc : TailM) W Y Z, (0 ≤ tc.next ∧ tc.next ≤ 2147483647) → (0 ≤ tc.number ∧ tc.number ≤ 4294967295) → Sat W (Y * (Z * (shelfAt SH p S * F))) → Calls Try.prog 27 #[.pointer (some ⟨p, 0, none⟩), .int .i64 d, .agg (tailA tc)] W fun e w' => e = .returned (.tuple #[.string (strB (nextO (nextL f N d tc) tc).1), .agg (tailA (nextO (nextL f N d tc) tc).2), .bool (nextL f N d tc).isSome, .int .i64 0]) ∧ Hid (Same W w' ∧ Sat w' (Y * (Z * (shelfAt SH p S * F)))) from fun tc W Y Z h1 h2 h => by
    have h3 := wnext_any p S (Y * (Z * F)) d N f hN hd64 hr hl tc h1 h2 W (h.perm (by ac_rfl))
    refine h3.mono fun e w' h' => ?_
    unfold NextOut at h'
    exact ⟨h'.1, h'.2.out.1, h'.2.out.2.perm (by ac_rfl)⟩)
  have H1 := Lib.hid (And.intro (((Same.refl w).alloc (.cells (tailA t) TTail)).alloc (.cells zTail TTail)) (((hS.alloc (.cells (tailA t) TTail)).alloc (.cells zTail TTail)).perm (show _ = pts w.heap.size (.cells (tailA t) TTail (0, 0)) * (pts (w.alloc (.cells (tailA t) TTail)).heap.size (.cells zTail TTail (0, 0)) * (shelfAt SH p S * F)) from by ac_rfl)))
  rw [World.size_alloc] at H1
  have HC := Lib.hid hch
  have HE := Lib.hid hend
  clear hS hr hl hN hd hd64 hwf ht hch hend
  go_enter Try.func12, Try.ntmps12
  go_upto_region 1 with ((with_reducible (refine wpList_alloc_zero ?_ TTail ?_ _ (zeroTail _) ?_)); rfl; rfl)
  generalize (w.alloc (.cells (tailA t) TTail)).alloc (.cells zTail TTail) = w1 at H1 ⊢
  generalize w.heap.size = B at H1 ⊢
  obtain ⟨t0, t1, t2, t3, lt⟩ := tail_cells4 H1.out.2
  go_upto_region 4 with (go_at_call 26; refine (HV.out _ _ _ H1.out.2).mono ?_; rintro e w2 ⟨rfl, hb⟩; replace H1 := Lib.hid (And.intro (H1.out.1.below hb) (H1.out.2.below hb)); clear t0 t1 t2 t3 lt hb; obtain ⟨t0, t1, t2, t3, lt⟩ := tail_cells4 H1.out.2)
  go_wp2_with (fail)
  clear t0 t1 t2 t3 lt
  obtain ⟨E, hE⟩ : ∃ E, E = pts B (.cells (tailA t) TTail (0, 0)) * (pts (B + 1) (.cells zTail TTail (0, 0)) * (shelfAt SH p S * F)) := ⟨_, rfl⟩
  have hst : ScSt w E f N d l t' (.slice none 0 0) (.pointer (some ⟨w2.heap.size, 0, none⟩)) (w2.alloc (.cells (tailA t) TTail)) :=
    ⟨⟨[], l, t, w2.heap.size, rfl, rfl, HC.out, ⟨b1, b3⟩, ⟨b2, by omega⟩, rfl, H1.out.1.alloc _, by
      refine ownAt_nil.2 ?_
      rw [hE]
      exact H1.out.2.alloc _⟩⟩
  have HST := Lib.hid hst
  have HEE := Lib.hid hE
  clear hst H1 hE b1 b2 b3 b4 HC
  generalize w2.alloc (.cells (tailA t) TTail) = w3 at HST ⊢
  generalize w2.heap.size = T0 at HST ⊢
  go_loopw [9, 10] (fun v9 v10 wr => ScSt w E f N d l t' v9 v10 wr) (fun v9 _ _ => l.length + 1 - slen v9)
  case atStart => exact HST.out
  case round =>
    obtain ⟨acc, rest, tc, T, rfl, hacc, hch, h1, h2, hsl, hsm, hs⟩ := hrel.st
    have H1 := Lib.hid (And.intro hsm (show Sat wr (pts T (.cells (tailA tc) TTail (0, 0)) * ((ownS u9 acc * (pts B (.cells (tailA t) TTail (0, 0)) * pts (B + 1) (.cells zTail TTail (0, 0)))) * (shelfAt SH p S * F))) from hs.perm (by rw [HEE.out]; ac_rfl)))
    have HSL := Lib.hid hsl
    obtain ⟨ao9, cp9, rfl⟩ := ownAt_slice hs
    have hnxt := HN.out tc
    obtain ⟨t0, t1', t2, t3, lt⟩ := tail_cells4 H1.out.2
    clear hrel HST hsm hs hsl
    cases hch with
    | nil =>
      have he := HE.out
      have hn2 := fun W Y Z (h : Sat W (Y * (Z * (shelfAt SH p S * F)))) => hnxt W Y Z h1 h2 h
      rw [he] at hn2
      replace hn2 := Lib.hid hn2
      have HA := Lib.hid hacc
      clear he hnxt hacc h1 h2
      go_wp2_with (go_at_call 27; refine (hn2.out _ _ _ H1.out.2).mono ?_; rintro e w4 ⟨rfl, h4⟩; replace H1 := Lib.hid (And.intro (H1.out.1.trans h4.out.1) h4.out.2); clear t0 t1' t2 t3 lt h4; obtain ⟨t0, t1', t2, t3, lt⟩ := tail_cells4 H1.out.2)
      clear t0 t1' t2 t3 lt
      replace H1 := Lib.hid (And.intro (H1.out.1.alloc (.cells (tailA t') TTail)).drew (H1.out.2.allocKeep (.cells (tailA t') TTail)).drew)
      have hcells := Lib.hid (show ∀ (W : World) (X : HProp), Sat W (pts T (.cells (tailA t') TTail (0, 0)) * X) → W.cell? ⟨T, 0, none⟩ = some (.int .i64 t'.next) ∧ W.cell? ⟨T, 1, none⟩ = some (.int .i64 t'.number) ∧ W.cell? ⟨T, 2, none⟩ = some (.int .i64 t'.gen.epoch) ∧ W.cell? ⟨T, 3, none⟩ = some (.int .i64 t'.gen.count) from fun W X h => by have h1 := cells_at h.block; exact ⟨h1 0, h1 1, h1 2, h1 3⟩)
      have hS0 := hcells.out _ _ H1.out.2
      refine reg_begin (fun w' => w'.cell? ⟨T, 0, none⟩ = some (.int .i64 t'.next) ∧ w'.cell? ⟨T, 1, none⟩ = some (.int .i64 t'.number) ∧ w'.cell? ⟨T, 2, none⟩ = some (.int .i64 t'.gen.epoch) ∧ w'.cell? ⟨T, 3, none⟩ = some (.int .i64 t'.gen.count)) (by kernel_rfl) ?_
      (apply reg_take 0 rfl rfl (by decide +kernel) rfl); (rintro w' ⟨h1, h2, h3, h4⟩; go_simp; rfl); exact hS0; simp only [List.setIfInBounds_toArray, List.set_cons_succ, List.set_cons_zero]
      (apply reg_take 1 rfl rfl (by decide +kernel) rfl); (rintro w' ⟨h1, h2, h3, h4⟩; go_simp; rfl); exact hS0; simp only [List.setIfInBounds_toArray, List.set_cons_succ, List.set_cons_zero]
      (apply reg_take 2 rfl rfl (by decide +kernel) rfl); (rintro w' ⟨h1, h2, h3, h4⟩; go_simp; rfl); exact hS0; simp only [List.setIfInBounds_toArray, List.set_cons_succ, List.set_cons_zero]
      refine reg_store_blk 3 (T := TTail) (old := zTail) (new := tailA t') rfl rfl (by decide +kernel) rfl rfl rfl rfl (H1.out.2.perm (scan_perm _ _ _ _ _)) (infoTail rfl) rfl (by simp [Value.oneCell']) ?_
      intro w9 h9
      replace H1 := Lib.hid (And.intro (H1.out.1.trans h9.out.1) h9.out.2)
      replace hS0 := hcells.out _ _ (h9.out.2.perm (star_left_comm _ _ _))
      refine ⟨hS0, ?_⟩
      clear h9
      (apply reg_take 4 rfl rfl (by decide +kernel) rfl); (rintro w' ⟨h1, h2, h3, h4⟩; go_simp; rfl); exact hS0; simp only [List.setIfInBounds_toArray, List.set_cons_succ, List.set_cons_zero]
      refine reg_done (by decide +kernel) ?_
      clear hS0
      go_wp2
      refine bodyPost_ret (v := .tuple #[.slice ao9 acc.length cp9, .agg (tailA t'), .int .i64 0]) (results3 Try.results12 (.tmp rfl) (ResIs.row rfl H1.out.2.block Try.underlying31 rfl (infoTail rfl)) (.tmp rfl)) rfl ?_
      have e : l = acc := by rw [HA.out, List.append_nil]
      rw [e]
      exact ⟨_, rfl, H1.out.1, (H1.out.2.right.right.perm (scan_perm3 _ _ _)).right⟩
    | cons hstep hrest =>
      rename_i t1 r rest
      obtain ⟨n1, n2, n3⟩ := next_bound hN2 hstep h1.1
      have hn2 := fun W Y Z (h : Sat W (Y * (Z * (shelfAt SH p S * F)))) => hnxt W Y Z h1 h2 h
      rw [hstep] at hn2
      replace hn2 := Lib.hid (show ∀ W Y Z, Sat W (Y * (Z * (shelfAt SH p S * F))) → Calls Try.prog 27 #[.pointer (some ⟨p, 0, none⟩), .int .i64 d, .agg (tailA tc)] W fun e w' => e = .returned (.tuple #[.string (strB r), .agg (tailA t1), .bool true, .int .i64 0]) ∧ Hid (Same W w' ∧ Sat w' (Y * (Z * (shelfAt SH p S * F)))) from hn2)
      have HA := Lib.hid hacc
      have HX := Lib.hid (And.intro n1 (And.intro n2 (And.intro n3 hrest)))
      clear hnxt hacc h1 h2 n1 n2 n3 hrest hstep
      go_upto_region 6 with (go_at_call 27; refine (hn2.out _ _ _ H1.out.2).mono ?_; rintro e w4 ⟨rfl, h4⟩; replace H1 := Lib.hid (And.intro (H1.out.1.trans h4.out.1) h4.out.2); clear t0 t1' t2 t3 lt h4; obtain ⟨t0, t1', t2, t3, lt⟩ := tail_cells4 H1.out.2)
      clear t0 t1' t2 t3 lt
      replace H1 := Lib.hid (And.intro (H1.out.1.alloc (.cells (tailA t1) TTail)).drew (H1.out.2.alloc (.cells (tailA t1) TTail)).drew)
      go_wp2_with (fail)
      rw [show (w4.alloc (.cells (tailA t1) TTail)).drew = (w4.alloc (.cells (tailA t1) TTail)).drew from rfl] at H1
      generalize hG : w4.heap.size = G at H1 ⊢
      have hcells := Lib.hid (show ∀ (W : World) (X : HProp), Sat W (pts G (.cells (tailA t1) TTail (0, 0)) * X) → W.cell? ⟨G, 0, none⟩ = some (.int .i64 t1.next) ∧ W.cell? ⟨G, 1, none⟩ = some (.int .i64 t1.number) ∧ W.cell? ⟨G, 2, none⟩ = some (.int .i64 t1.gen.epoch) ∧ W.cell? ⟨G, 3, none⟩ = some (.int .i64 t1.gen.count) from fun W X h => by have h1 := cells_at h.block; exact ⟨h1 0, h1 1, h1 2, h1 3⟩)
      have hS0 := hcells.out _ _ H1.out.2
      clear hG
      refine reg_begin (fun w' => w'.cell? ⟨G, 0, none⟩ = some (.int .i64 t1.next) ∧ w'.cell? ⟨G, 1, none⟩ = some (.int .i64 t1.number) ∧ w'.cell? ⟨G, 2, none⟩ = some (.int .i64 t1.gen.epoch) ∧ w'.cell? ⟨G, 3, none⟩ = some (.int .i64 t1.gen.count)) (by kernel_rfl) ?_
      (apply reg_take 0 rfl rfl (by decide +kernel) rfl); (rintro w' ⟨h1, h2, h3, h4⟩; go_simp; rfl); exact hS0; simp only [List.setIfInBounds_toArray, List.set_cons_succ, List.set_cons_zero]
      (apply reg_take 1 rfl rfl (by decide +kernel) rfl); (rintro w' ⟨h1, h2, h3, h4⟩; go_simp; rfl); exact hS0; simp only [List.setIfInBounds_toArray, List.set_cons_succ, List.set_cons_zero]
      (apply reg_take 4 rfl rfl (by decide +kernel) rfl); (rintro w' ⟨h1, h2, h3, h4⟩; go_simp; rfl); exact hS0; simp only [List.setIfInBounds_toArray, List.set_cons_succ, List.set_cons_zero]
      generalize (w4.alloc (.cells (tailA t1) TTail)).drew = w5 at H1 hS0 ⊢
      have hA := H1.out.2.alloc (.cells #[.string (strB r)] TString)
      have hS1 := hcells.out _ _ (hA.perm (star_left_comm _ _ _))
      refine reg_run 2 (.slice (some ⟨w5.heap.size, 0, none⟩) 1 1) (w5.alloc (.cells #[.string (strB r)] TString)) rfl rfl (by decide +kernel) rfl (by go_simp) (hS1) ?_; simp only [List.setIfInBounds_toArray, List.set_cons_succ, List.set_cons_zero]
      have hA2 := hA.perm (show _ = ownAt TString 1 (.slice ao9 acc.length cp9) acc.length (strsL acc) * (pts w5.heap.size (.cells #[.string (strB r)] TString (0, 0)) * (pts G (.cells (tailA t1) TTail (0, 0)) * (pts T (.cells (tailA tc) TTail (0, 0)) * ((pts B (.cells (tailA t) TTail (0, 0)) * pts (B + 1) (.cells zTail TTail (0, 0))) * (shelfAt SH p S * F))))) from by unfold ownS; ac_rfl)
      have hal : acc.length + 1 ≤ 100000 := by have e := congrArg List.length HA.out; simp at e; omega
      obtain ⟨ti, hti, hz0, hts, hz2⟩ := info_parts infoStr3
      obtain ⟨v', w6, hrn, hsm6, hs6⟩ := run_append_ownAt (P := Try.prog) 22 22 TString ti _ Try.underlying22 hti hz0 (by rw [hts]; rfl) _ acc.length (strsL acc) (by rw [hts]; exact hA2) ⟨w5.heap.size, 0, none⟩ 1 1 [.string (strB r)] (by rw [hts]; rfl)
        (by intro j u hu; rw [Addr.add_mid, cells_at hA2.right.block, Nat.zero_add]; simpa using hu) (by simp [Value.oneCell']) (by unfold maxLen; omega) (by rw [hz2]; omega)
      rw [hts] at hs6
      have hs7 := hs6.perm (show _ = pts G (.cells (tailA t1) TTail (0, 0)) * (pts T (.cells (tailA tc) TTail (0, 0)) * (pts w5.heap.size (.cells #[.string (strB r)] TString (0, 0)) * ((ownAt TString 1 v' (acc.length + 1) (strsL acc ++ [.string (strB r)]) * (pts B (.cells (tailA t) TTail (0, 0)) * pts (B + 1) (.cells zTail TTail (0, 0)))) * (shelfAt SH p S * F)))) from by ac_rfl)
      have hS2 := hcells.out _ _ hs7
      replace H1 := Lib.hid (And.intro ((H1.out.1.alloc (.cells #[.string (strB r)] TString)).trans hsm6) hs7)
      have HRN := Lib.hid hrn
      clear hs7 hA2 hA hsm6 hS0 hti hz0 hts hz2 hrn
      refine reg_run 3 (v') (w6) rfl rfl (by decide +kernel) rfl (exec_append rfl rfl rfl HRN.out) (hS2) ?_; simp only [List.setIfInBounds_toArray, List.set_cons_succ, List.set_cons_zero]
      (apply reg_take 5 rfl rfl (by decide +kernel) rfl); (rintro w' ⟨h1, h2, h3, h4⟩; go_simp; rfl); exact hS2; simp only [List.setIfInBounds_toArray, List.set_cons_succ, List.set_cons_zero]
      refine reg_store_blk 6 (T := TTail) (old := tailA tc) (new := tailA t1) rfl rfl (by decide +kernel) rfl rfl rfl rfl (H1.out.2.perm (star_left_comm _ _ _)) (infoTail rfl) rfl (by simp [Value.oneCell']) ?_
      intro w9 h9
      replace H1 := Lib.hid (And.intro (H1.out.1.trans h9.out.1) h9.out.2)
      have hS3 := hcells.out _ _ (h9.out.2.perm (star_left_comm _ _ _))
      refine ⟨hS3, ?_⟩
      refine reg_done (by decide +kernel) ?_
      clear h9 hS3 hS1 hS2
      obtain ⟨ao', cp', rfl⟩ := ownAt_slice hs6
      clear hs6
      obtain ⟨t0, t1', t2, t3, lt⟩ := tail_cells4 H1.out.2
      go_wp2
      replace H1 := Lib.hid (And.intro (H1.out.1.alloc (.cells (tailA t1) TTail)) (H1.out.2.alloc (.cells (tailA t1) TTail)))
      obtain ⟨n1, n2, _, hrest⟩ := HX.out
      refine ⟨⟨⟨acc ++ [r], rest, t1, w9.heap.size, rfl, by rw [HA.out]; simp, hrest, n1, n2, by simp [slen], H1.out.1, ?_⟩⟩, ?_⟩
      · rw [HEE.out]
        unfold ownS
        rw [List.length_append, List.length_singleton, show strsL (acc ++ [r]) = strsL acc ++ [.string (strB r)] by simp [strsL]]
        exact (H1.out.2.perm (scan_perm2 _ _ _ _ _ _ _ _)).right.right.right
      · have e := congrArg List.length HA.out
        simp at e
        simp only [slen]
        omega
end Go.Proofs.Ytbegomjbakidmaa

/- The iterator over the payloads of a record: wal.payloads, payloads$1. -/
namespace Go.Proofs.Ytbegomjbakidmaa
open Go.RowKit Go.Sl Go.ChangeMaps Go.Shelf
attribute [local go_sem] Oper.semAt_some

abbrev encP (x : Nat × List UInt8) : Array Value := #[.int .i64 (x.1 : Int), .string (strB x.2)]
def payXs (t : TailM) (r : List UInt8) : List (Nat × List UInt8) := (List.range (recN r)).map fun i => (i, payL t r i)
theorem payXs_len (t : TailM) (r : List UInt8) : (payXs t r).length = recN r := by simp [payXs]
theorem payXs_at {t : TailM} {r : List UInt8} {i : Nat} (h : i < recN r) : (payXs t r)[i]? = some (i, payL t r i) := by simp [payXs, h]
def payB (R T : Nat) (t : TailM) (r : List UInt8) : HProp := pts R (.cells #[.string (strB r)] TString (0, 0)) * pts T (.cells (tailA t) TTail (0, 0))
theorem pay_cells {w : World} {R T : Nat} {t : TailM} {r : List UInt8} {X : HProp} (h : Sat w (payB R T t r * X)) :
    w.cell? ⟨R, 0, none⟩ = some (.string (strB r)) ∧ w.cell? ⟨T, 1, none⟩ = some (.int .i64 t.number) ∧ w.cell? ⟨T, 2, none⟩ = some (.int .i64 t.gen.epoch) ∧ w.cell? ⟨T, 3, none⟩ = some (.int .i64 t.gen.count) ∧ R < w.heap.size ∧ T < w.heap.size := by
  unfold payB at h
  rw [star_assoc] at h
  have h1 := cells_at h.block
  have h2 := cells_at h.right.block
  exact ⟨h1 0, h2 1, h2 2, h2 3, h.lt, h.right.lt⟩
theorem pay_perm (J B O : HProp) : J * (B * O) = O * (J * B) := by ac_rfl
structure PaySt (w0 : World) (J : Nat → HProp) (B : HProp) (n : Nat) (i : Value) (wr : World) : Prop where
  st : ∃ k : Nat, k ≤ n ∧ i = .int .i64 (k : Int) ∧ Same w0 wr ∧ Sat wr (J k * B)
section
variable {o : Oper} {a : Act} {w : World}
theorem exec_str_add {T t2 : TypeId} {x y : Operand} {s t : List UInt8} (ho : o.op = .binOp .add T x y t2) (hx : a.eval x = .string (strB s)) (hy : a.eval y = .string (strB t)) (hg : eqGuard .add T x y (.string (strB s)) (.string (strB t)) = pure ()) (h : s.length + t.length ≤ 1000000) :
    (execOp a.eval o).run Try.prog w = .ok (.value (.string (strB (s ++ t)))) w := by
  refine exec_binop ho hx hy hg ?_
  rw [binOp_string_add, run_string_add_sum _ _ _ (by rw [strB_size, strB_size]; omega), strB_app]
end

theorem wput_int (v : Value) (l : List UInt8) (n sz : Nat) (m z : Int) (X : HProp) (W : World) (hm : m = (n : Int)) (hz : z = (sz : Int)) (h1 : n < 4611686018427387904) (h2 : sz ≤ 8) (h3 : l.length ≤ 1000000) (h4 : Sat W (ownB v l * X)) :
    Calls Try.prog 53 #[v, .int .i64 m, .int .i64 z] W fun e w' => ∃ v', e = .returned v' ∧ Hid (Same W w' ∧ Sat w' (ownB v' (l ++ leL n sz) * X)) := by
  subst hm hz; exact wput_any v l n sz h1 h2 h3 X W h4
set_option maxRecDepth 100000 in
set_option maxHeartbeats 1000000 in
theorem payloads_seq (F : Fence) (hF : Free F Try.prog) (n R T : Nat) (nx : Int) (nu ge gc : Nat) (r : List UInt8) (hnu : nu ≤ 2147483647) (hge : ge < 4294967296) (hgc : gc < 4294967296) (hr : r.length ≤ 4096) (w0 : World) :
    SeqSat F n Try.prog 52 #[.pointer (some ⟨R, 0, none⟩), .pointer (some ⟨T, 0, none⟩)] encP (payXs ⟨nx, nu, ⟨ge, gc⟩⟩ r) (payB R T ⟨nx, nu, ⟨ge, gc⟩⟩ r) w0 := by
  intro l J Jx W hY hsm hs
  have hdd : ∀ k : Nat, (F.depth.isSome = true → 1 ≤ k) := hF.ask
  have hro := hF.round
  have hfn := hF.fn
  have HY := Lib.hid hY
  have hsz := fun W => size_any (r.length : Int) (by omega) (by omega) W
  rw [← recN_val] at hsz
  have HSZ := Lib.hid hsz
  have HPL := Lib.hid (show ∀ k, payL ⟨nx, nu, ⟨ge, gc⟩⟩ r k = leL (nu + 1) 4 ++ leL (r.length - 26 * k) 2 ++ leL ge 4 ++ leL gc 4 ++ (r.drop (26 * k)).take 26 from fun k => rfl)
  have hn158 : recN r ≤ 158 := by rw [recN_eq]; omega
  have HLT := Lib.hid (fun i (h : i < recN r) => recN_lt (r := r) h)
  have HXA := Lib.hid (fun i (h : i < recN r) => payXs_at (t := ⟨nx, nu, ⟨ge, gc⟩⟩) (r := r) h)
  rw [payXs_len]
  obtain ⟨N, hN⟩ : ∃ N, recN r = N := ⟨_, rfl⟩
  rw [hN] at HSZ hn158 HLT HXA ⊢
  have H1 := Lib.hid (And.intro hsm hs)
  obtain ⟨c0, c1, c2, c3, l0, l1⟩ := pay_cells (hs.perm (star_comm _ _))
  clear hY hsz hN hsm hs
  simp only at c1 c2 c3
  have hrz : (strB r).size = r.length := strB_size r
  refine callsIn_of_wp Try.func52 rfl (hF.fn _) ?_ hF.round
  simp only [Try.ntmps52, List.size_toArray, List.length_cons, List.length_nil, Nat.reduceAdd, Nat.reduceSub, Array.replicate_succ, Array.replicate_zero, List.push_toArray, List.append_toArray, List.nil_append, List.cons_append]
  gi_wp2_with ((try refine ⟨hdd _, ?_⟩); gi_at_call 13; refine (hF.calls _ _ _ _ _ (HSZ.out _)).mono ?_; rintro e w' ⟨rfl, rfl⟩)
  have HST := Lib.hid (show PaySt w0 J (payB R T ⟨nx, nu, ⟨ge, gc⟩⟩ r) N (.int .i64 ((0 : Nat) : Int)) W from ⟨⟨0, by omega, rfl, H1.out⟩⟩)
  clear H1 c0 c1 c2 c3 l0 l1
  gi_loopw [10] (fun v wr => PaySt w0 J (payB R T ⟨nx, nu, ⟨ge, gc⟩⟩ r) N v wr) (fun v _ => N - (intOf v).toNat)
  case atStart => exact HST.out
  case round =>
    obtain ⟨k, hk, rfl, hsm, hs⟩ := hrel.st
    have H1 := Lib.hid (And.intro hsm hs)
    obtain ⟨c0, c1, c2, c3, l0, l1⟩ := pay_cells (hs.perm (star_comm _ _))
    simp only at c1 c2 c3
    clear hrel HST hsm hs
    by_cases hlt : k < N
    · have hltd : decide (k < N) = true := decide_eq_true hlt
      have hltd2 : decide ((k : Int) < (N : Int)) = true := decide_eq_true (by omega)
      have hkr := HLT.out k hlt
      have ho : (26 : Int) * (k : Int) = ((26 * k : Nat) : Int) := by omega
      have hq : (strB r).extract (26 * k) r.length = strB (r.drop (26 * k)) := by rw [strB_sub]; unfold subL; rw [List.take_of_length_le (by rw [List.length_drop]; omega)]
      have hql : (r.drop (26 * k)).length = r.length - 26 * k := List.length_drop
      have HP := HPL.out k
      obtain ⟨q, hqq⟩ : ∃ q, r.drop (26 * k) = q := ⟨_, rfl⟩
      rw [hqq] at hq hql HP
      rw [← hql] at HP
      obtain ⟨m, hm⟩ : ∃ m, 26 * k = m := ⟨_, rfl⟩
      rw [hm] at ho hq hkr
      have hqs : (strB q).size = q.length := strB_size q
      have hq4 : q.length ≤ 4096 := by rw [hql]; omega
      have HPP := Lib.hid HP
      clear hqq hm hql HP
      have HPUT := Lib.hid (fun v l n sz m z X W => wput_int v l n sz m z X W)
      have HPU1 := Lib.hid (show Calls Try.prog 53 #[.slice none 0 0, .int .i64 ((nu : Int) + 1), .int .i64 4] wr fun e w' => ∃ v', e = .returned v' ∧ Hid (Same wr w' ∧ Sat w' (ownB v' ([] ++ leL (nu + 1) 4) * (J k * payB R T ⟨nx, nu, ⟨ge, gc⟩⟩ r))) from HPUT.out _ [] (nu + 1) 4 _ _ _ wr (by omega) rfl (by omega) (by omega) (by simp) (ownB_nil.2 H1.out.2))
      have hkr2 : (m : Int) ≤ (r.length : Int) := by omega
      have hkr3 : (0 : Int) ≤ (m : Int) := by omega
      gi_wp2_with (first
        | ((try refine ⟨hdd _, ?_⟩); gi_at_call 53; (with_reducible refine (hF.calls _ _ _ _ _ HPU1.out).mono ?_); rintro e w4 ⟨v4, rfl, h4⟩; replace H1 := Lib.hid (And.intro (H1.out.1.trans h4.out.1) h4.out.2); clear h4)
        | ((try refine ⟨hdd _, ?_⟩); gi_at_call 53; (with_reducible refine (hF.calls _ _ _ _ _ (HPUT.out _ _ q.length 2 _ _ _ _ rfl (by omega) (by omega) (by omega) (by simp [leL_length]) H1.out.2)).mono ?_); rintro e w5 ⟨v5, rfl, h5⟩; replace H1 := Lib.hid (And.intro (H1.out.1.trans h5.out.1) h5.out.2); clear h5))
      clear c0 c1 c2 c3 l0 l1 hkr2 hkr3 HPU1
      have hpc := Lib.hid (show ∀ (w' : World) (X Y : HProp), Sat w' (X * (Y * payB R T ⟨nx, nu, ⟨ge, gc⟩⟩ r)) → w'.cell? ⟨T, 2, none⟩ = some (.int .i64 (ge : Int)) ∧ w'.cell? ⟨T, 3, none⟩ = some (.int .i64 (gc : Int)) from fun w' X Y h => by
        obtain ⟨_, _, h1, h2, _⟩ := pay_cells (h.perm (show _ = payB R T ⟨nx, nu, ⟨ge, gc⟩⟩ r * (X * Y) from by ac_rfl))
        exact ⟨h1, h2⟩)
      have hS0 := hpc.out w5.drew _ _ H1.out.2
      have LE := Lib.hid (show ge < 4611686018427387904 ∧ gc < 4611686018427387904 by omega)
      refine regi_begin (fun w' => w'.cell? ⟨T, 2, none⟩ = some (.int .i64 (ge : Int)) ∧ w'.cell? ⟨T, 3, none⟩ = some (.int .i64 (gc : Int))) (by kernel_rfl) ?_
      (apply regi_take hF 0 rfl rfl (by decide +kernel) rfl); (rintro w' ⟨h1, h2⟩; go_simp; rfl); exact hS0; simp only [List.setIfInBounds_toArray, List.set_cons_succ, List.set_cons_zero]
      (apply regi_take hF 1 rfl rfl (by decide +kernel) rfl); (rintro w' ⟨h1, h2⟩; go_simp; rfl); exact hS0; simp only [List.setIfInBounds_toArray, List.set_cons_succ, List.set_cons_zero]
      (apply regi_take hF 2 rfl rfl (by decide +kernel) rfl); (rintro w' ⟨h1, h2⟩; go_simp; rfl); exact hS0; simp only [List.setIfInBounds_toArray, List.set_cons_succ, List.set_cons_zero]
      (apply regi_take hF 3 rfl rfl (by decide +kernel) rfl); (rintro w' ⟨h1, h2⟩; go_simp; rfl); exact hS0; simp only [List.setIfInBounds_toArray, List.set_cons_succ, List.set_cons_zero]
      (apply regi_take hF 5 rfl rfl (by decide +kernel) rfl); (rintro w' ⟨h1, h2⟩; go_simp; rfl); exact hS0; simp only [List.setIfInBounds_toArray, List.set_cons_succ, List.set_cons_zero]
      (apply regi_take hF 6 rfl rfl (by decide +kernel) rfl); (rintro w' ⟨h1, h2⟩; go_simp; rfl); exact hS0; simp only [List.setIfInBounds_toArray, List.set_cons_succ, List.set_cons_zero]
      (apply regi_take hF 7 rfl rfl (by decide +kernel) rfl); (rintro w' ⟨h1, h2⟩; go_simp; rfl); exact hS0; simp only [List.setIfInBounds_toArray, List.set_cons_succ, List.set_cons_zero]
      refine regi_call hF 4 rfl rfl (by decide +kernel) rfl (f := 53) (args := #[v5, .int .i64 (ge : Int), .int .i64 4]) (R := fun v w' => Hid (Same w5.drew w' ∧ Sat w' (ownB v ([] ++ leL (nu + 1) 4 ++ leL q.length 2 ++ leL ge 4) * (J k * payB R T ⟨nx, nu, ⟨ge, gc⟩⟩ r)))) (by kernel_rfl) (HPUT.out v5 _ ge 4 _ _ _ w5.drew rfl rfl LE.out.1 (by decide) (by simp [leL_length]) H1.out.2) ?_
      rintro v6 w6 h6
      replace H1 := Lib.hid (And.intro (H1.out.1.drew.trans h6.out.1) h6.out.2)
      replace hS0 := hpc.out w6 _ _ H1.out.2
      refine ⟨hS0, ?_⟩
      simp only [List.setIfInBounds_toArray, List.set_cons_succ, List.set_cons_zero]
      refine regi_call hF 8 rfl rfl (by decide +kernel) rfl (f := 53) (args := #[v6, .int .i64 (gc : Int), .int .i64 4]) (R := fun v w' => Hid (Same w6 w' ∧ Sat w' (ownB v ([] ++ leL (nu + 1) 4 ++ leL q.length 2 ++ leL ge 4 ++ leL gc 4) * (J k * payB R T ⟨nx, nu, ⟨ge, gc⟩⟩ r)))) (by kernel_rfl) (HPUT.out v6 _ gc 4 _ _ _ w6 rfl rfl LE.out.2 (by decide) (by simp [leL_length]) H1.out.2) ?_
      rintro v7 w7 h7
      replace H1 := Lib.hid (And.intro (H1.out.1.trans h7.out.1) h7.out.2)
      replace hS0 := hpc.out w7 _ _ H1.out.2
      refine ⟨hS0, ?_⟩
      simp only [List.setIfInBounds_toArray, List.set_cons_succ, List.set_cons_zero]
      (apply regi_take hF 9 rfl rfl (by decide +kernel) rfl); (rintro w' ⟨h1, h2⟩; go_simp; rfl); exact hS0; simp only [List.setIfInBounds_toArray, List.set_cons_succ, List.set_cons_zero]
      refine regi_done (by decide +kernel) ?_
      clear h6 h7 hS0 hpc
      obtain ⟨pre, hpre⟩ : ∃ pre, [] ++ leL (nu + 1) 4 ++ leL q.length 2 ++ leL ge 4 ++ leL gc 4 = pre := ⟨_, rfl⟩
      have hpl : pre.length = 14 := by rw [← hpre]; simp [leL_length]
      rw [hpre] at H1
      have HPP2 := Lib.hid (show payL ⟨nx, nu, ⟨ge, gc⟩⟩ r k = pre ++ q.take (min 26 q.length) from by
        rw [HPP.out, ← hpre, List.nil_append]
        congr 1
        by_cases h : q.length ≤ 26
        · rw [List.take_of_length_le (by omega), List.take_of_length_le (by omega)]
        · rw [Nat.min_eq_left (by omega)])
      have HPLN := Lib.hid hpl
      clear hpre hpl HPP HPUT LE
      gi_wp2
      replace H1 := Lib.hid (And.intro H1.out.1.drew H1.out.2.drew)
      obtain ⟨ao7, cp7, rfl⟩ := ownAt_slice H1.out.2
      have hS0 : ∃ X, Sat w7.drew (ownB (.slice ao7 pre.length cp7) pre * X) := ⟨_, H1.out.2⟩
      have hp0 : 0 < pre.length := by rw [HPLN.out]; decide
      refine regi_begin (fun w' => ∃ X, Sat w' (ownB (.slice ao7 pre.length cp7) pre * X)) (by kernel_rfl) ?_
      (apply regi_take hF 0 rfl rfl (by decide +kernel) rfl); (rintro w' ⟨X, hX⟩; go_simp; rfl); exact hS0; simp only [List.setIfInBounds_toArray, List.set_cons_succ, List.set_cons_zero]
      (apply regi_take hF 1 rfl rfl (by decide +kernel) rfl); (rintro w' ⟨X, hX⟩; go_simp; rfl); exact hS0; simp only [List.setIfInBounds_toArray, List.set_cons_succ, List.set_cons_zero]
      (apply regi_take hF 2 rfl rfl (by decide +kernel) rfl); (rintro w' ⟨X, hX⟩; go_simp; rfl); exact hS0; simp only [List.setIfInBounds_toArray, List.set_cons_succ, List.set_cons_zero]
      refine regi_take hF 3 (v := .string (strB pre)) rfl rfl (by decide +kernel) rfl (fun w' h => by obtain ⟨X, hX⟩ := h; exact exec_convert rfl rfl (run_str_own hp0 hX)) hS0 ?_; simp only [List.setIfInBounds_toArray, List.set_cons_succ, List.set_cons_zero]
      (apply regi_take hF 4 rfl rfl (by decide +kernel) rfl); (rintro w' ⟨X, hX⟩; go_simp; rfl); exact hS0; simp only [List.setIfInBounds_toArray, List.set_cons_succ, List.set_cons_zero]
      (apply regi_take hF 5 rfl rfl (by decide +kernel) rfl); (rintro w' ⟨X, hX⟩; go_simp; rfl); exact hS0; simp only [List.setIfInBounds_toArray, List.set_cons_succ, List.set_cons_zero]
      (apply regi_take hF 6 rfl rfl (by decide +kernel) rfl); (rintro w' ⟨X, hX⟩; go_simp; rfl); exact hS0; simp only [List.setIfInBounds_toArray, List.set_cons_succ, List.set_cons_zero]
      refine regi_take hF 7 (v := .int .i64 (min 26 (q.length : Int))) rfl rfl (by decide +kernel) rfl (fun w' _ => exec_min rfl rfl rfl) hS0 ?_; simp only [List.setIfInBounds_toArray, List.set_cons_succ, List.set_cons_zero]
      refine regi_take hF 8 (v := .string (strB (q.take (min 26 q.length)))) rfl rfl (by decide +kernel) rfl (fun w' _ => exec_str_to (j := min 26 q.length) rfl Try.underlying9 rfl (congrArg (Value.int .i64) (by omega)) (by omega)) hS0 ?_; simp only [List.setIfInBounds_toArray, List.set_cons_succ, List.set_cons_zero]
      refine regi_take hF 9 (v := .string (strB (pre ++ q.take (min 26 q.length)))) rfl rfl (by decide +kernel) rfl (fun w' _ => exec_str_add rfl rfl rfl rfl (by rw [HPLN.out, List.length_take]; omega)) hS0 ?_; simp only [List.setIfInBounds_toArray, List.set_cons_succ, List.set_cons_zero]
      obtain ⟨fn, tmps, assign, body, hy, hR⟩ := HY.out k (k, payL ⟨nx, nu, ⟨ge, gc⟩⟩ r k) w7.drew (ownB (.slice ao7 pre.length cp7) pre) (HXA.out k hlt) H1.out.1 (H1.out.2.perm (by ac_rfl))
      dsimp only [encP] at hy
      rw [HPP2.out] at hy
      have HYY := Lib.hid hy
      clear hy
      refine regi_round hF 10 rfl rfl (by decide +kernel) rfl (R := fun v w' => (v = .bool true ∧ Hid (Same w0 w' ∧ Sat w' (J (k + 1) * (payB R T ⟨nx, nu, ⟨ge, gc⟩⟩ r * ownB (.slice ao7 pre.length cp7) pre)))) ∨ (v = .bool false ∧ Hid (Same w0 w' ∧ Sat w' (Jx * (payB R T ⟨nx, nu, ⟨ge, gc⟩⟩ r * ownB (.slice ao7 pre.length cp7) pre))))) (show _ = _ from by
        unfold execOp
        simp [resolve, invoke, go_sem, HYY.out]) (hR.mono fun e w' h => by
          rcases h with ⟨rfl, h1, h2⟩ | ⟨rfl, h1, h2⟩
          · exact ⟨_, rfl, .inl ⟨rfl, h1, h2⟩⟩
          · exact ⟨_, rfl, .inr ⟨rfl, h1, h2⟩⟩) ?_
      rintro _ w8 (⟨rfl, h8⟩ | ⟨rfl, h8⟩)
      · have hS1 : ∃ X, Sat w8 (ownB (.slice ao7 pre.length cp7) pre * X) := ⟨_, h8.out.2.perm (pay_perm _ _ _)⟩
        refine ⟨hS1, ?_⟩
        simp only [List.setIfInBounds_toArray, List.set_cons_succ, List.set_cons_zero]
        (apply regi_take hF 11 rfl rfl (by decide +kernel) rfl); (rintro w' ⟨X, hX⟩; go_simp; rfl); exact hS1; simp only [List.setIfInBounds_toArray, List.set_cons_succ, List.set_cons_zero]
        refine regi_done (by decide +kernel) ?_
        clear hS1 hS0 hR
        gi_wp2
        refine ⟨⟨⟨k + 1, by omega, rfl, h8.out.1, ?_⟩⟩, by simp only [intOf]; omega⟩
        exact (h8.out.2.perm (pay_perm _ _ _)).right
      · have hS1 : ∃ X, Sat w8 (ownB (.slice ao7 pre.length cp7) pre * X) := ⟨_, h8.out.2.perm (pay_perm _ _ _)⟩
        refine ⟨hS1, ?_⟩
        simp only [List.setIfInBounds_toArray, List.set_cons_succ, List.set_cons_zero]
        (apply regi_take hF 11 rfl rfl (by decide +kernel) rfl); (rintro w' ⟨X, hX⟩; go_simp; rfl); exact hS1; simp only [List.setIfInBounds_toArray, List.set_cons_succ, List.set_cons_zero]
        refine regi_done (by decide +kernel) ?_
        clear hS1 hS0 hR
        gi_wp2
        exact bodyPost_ret (results_none Try.results52 _ _ _) rfl ⟨⟨_, rfl⟩, .inr ⟨h8.out.1, (h8.out.2.perm (pay_perm _ _ _)).right⟩⟩
    · obtain rfl : k = N := by omega
      have hltd : decide (k < k) = false := by simp
      have hltd2 : decide ((k : Int) < (k : Int)) = false := by simp
      gi_wp2
      go_end0
      exact ⟨⟨_, rfl⟩, .inl H1.out⟩
theorem payloads_any (t : TailM) (r : List UInt8) (F : HProp) (w : World) (hF : Sat w F) :
    Calls Try.prog 32 #[.agg (tailA t), .string (strB r)] w fun e w' => ∃ R T, e = .returned (.func (.func 52) #[] #[.pointer (some ⟨R, 0, none⟩), .pointer (some ⟨T, 0, none⟩)]) ∧ Hid (Same w w' ∧ Sat w' (payB R T t r * F)) := by
  have H1 := Lib.hid (And.intro (((Same.refl w).alloc (.cells (tailA t) TTail)).alloc (.cells #[.string (strB r)] TString)) (((hF.alloc (.cells (tailA t) TTail)).alloc (.cells #[.string (strB r)] TString))))
  rw [World.size_alloc] at H1
  clear hF
  go_enter Try.func32, Try.ntmps32
  go_wp2
  go_ret
  refine ⟨_, _, rfl, H1.out.1, ?_⟩
  unfold payB
  rw [star_assoc]
  exact H1.out.2
end Go.Proofs.Ytbegomjbakidmaa

/- wal.Append: the ways that refuse. -/
namespace Go.Proofs.Ytbegomjbakidmaa
open Go.RowKit Go.Sl Go.ChangeMaps

abbrev TShP : TypeId := 24
abbrev TErr : TypeId := 32
def apB (B p : Nat) (d : Int) (t : TailM) (g : GenM) (e : Int) (c : Array Value) (X : HProp) : HProp :=
  pts B (.cells #[.pointer (some ⟨p, 0, none⟩)] TShP (0, 0)) * (pts (B + 1) (.cells #[.int .i64 d] TInt (0, 0)) * (pts (B + 1 + 1) (.cells (tailA t) TTail (0, 0)) * (pts (B + 1 + 1 + 1) (.cells (genA g) TGen (0, 0)) * (pts (B + 1 + 1 + 1 + 1) (.cells c TTail (0, 0)) * (pts (B + 1 + 1 + 1 + 1 + 1) (.cells #[.int .i64 e] TErr (0, 0)) * X)))))
theorem ap_cells {w : World} {B p : Nat} {d e : Int} {t : TailM} {g : GenM} {c : Array Value} {X : HProp} (h : Sat w (apB B p d t g e c X)) :
    (w.cell? ⟨B, 0, none⟩ = some (.pointer (some ⟨p, 0, none⟩)) ∧ w.cell? ⟨B + 1, 0, none⟩ = some (.int .i64 d) ∧ (w.cell? ⟨B + 1 + 1, 0, none⟩ = some (.int .i64 t.next) ∧ w.cell? ⟨B + 1 + 1, 1, none⟩ = some (.int .i64 t.number) ∧ w.cell? ⟨B + 1 + 1, 2, none⟩ = some (.int .i64 t.gen.epoch) ∧ w.cell? ⟨B + 1 + 1, 3, none⟩ = some (.int .i64 t.gen.count)) ∧
      (w.cell? ⟨B + 1 + 1 + 1, 0, none⟩ = some (.int .i64 g.epoch) ∧ w.cell? ⟨B + 1 + 1 + 1, 1, none⟩ = some (.int .i64 g.count)) ∧ (B < w.heap.size ∧ B + 1 < w.heap.size ∧ B + 1 + 1 < w.heap.size ∧ B + 1 + 1 + 1 < w.heap.size ∧ B + 1 + 1 + 1 + 1 < w.heap.size ∧ B + 1 + 1 + 1 + 1 + 1 < w.heap.size)) := by
  unfold apB at h
  have h1 := cells_at h.block
  have h2 := cells_at h.right.block
  have h3 := cells_at h.right.right.block
  have h4 := cells_at h.right.right.right.block
  exact ⟨h1 0, h2 0, ⟨h3 0, h3 1, h3 2, h3 3⟩, ⟨h4 0, h4 1⟩, h.lt, h.right.lt, h.right.right.lt, h.right.right.right.lt, h.right.right.right.right.lt, h.right.right.right.right.right.lt⟩
theorem ap_res {w : World} {B p : Nat} {d e : Int} {t : TailM} {g : GenM} {X : HProp} (h : Sat w (apB B p d t g e zTail X)) :
    (w.cell? ⟨B + 1 + 1 + 1 + 1, 0, none⟩ = some (.int .i64 0) ∧ w.cell? ⟨B + 1 + 1 + 1 + 1, 1, none⟩ = some (.int .i64 0) ∧ w.cell? ⟨B + 1 + 1 + 1 + 1, 2, none⟩ = some (.int .i64 0) ∧ w.cell? ⟨B + 1 + 1 + 1 + 1, 3, none⟩ = some (.int .i64 0) ∧ w.cell? ⟨B + 1 + 1 + 1 + 1 + 1, 0, none⟩ = some (.int .i64 e)) ∧
    (w.frozen? ⟨B + 1 + 1 + 1 + 1, 0, none⟩ = false ∧ w.frozen? ⟨B + 1 + 1 + 1 + 1, 1, none⟩ = false ∧ w.frozen? ⟨B + 1 + 1 + 1 + 1, 2, none⟩ = false ∧ w.frozen? ⟨B + 1 + 1 + 1 + 1, 3, none⟩ = false ∧ w.frozen? ⟨B + 1 + 1 + 1 + 1 + 1, 0, none⟩ = false) := by
  unfold apB at h
  have h5 := cells_at h.right.right.right.right.block
  have h6 := cells_at h.right.right.right.right.right.block
  have f5 := thawed_at h.right.right.right.right.block
  have f6 := thawed_at h.right.right.right.right.right.block
  exact ⟨⟨h5 0, h5 1, h5 2, h5 3, h6 0⟩, f5 0, f5 1, f5 2, f5 3, f6 0⟩
theorem ap_perm (A B C D E F X : HProp) : A * (B * (C * (D * (E * (F * X))))) = E * (F * (A * (B * (C * (D * X))))) := by ac_rfl
theorem ap_store {w w0 : World} {B p : Nat} {d e : Int} {t : TailM} {g : GenM} {X : HProp} (hm : Same w0 w) (h : Sat w (apB B p d t g e zTail X)) (a b c z : Value) (e2 : Int) :
    Same w0 (((((w.setCell ⟨B + 1 + 1 + 1 + 1, 0, none⟩ a).setCell ⟨B + 1 + 1 + 1 + 1, 1, none⟩ b).setCell ⟨B + 1 + 1 + 1 + 1, 2, none⟩ c).setCell ⟨B + 1 + 1 + 1 + 1, 3, none⟩ z).setCell ⟨B + 1 + 1 + 1 + 1 + 1, 0, none⟩ (.int .i64 e2)) ∧
    Sat (((((w.setCell ⟨B + 1 + 1 + 1 + 1, 0, none⟩ a).setCell ⟨B + 1 + 1 + 1 + 1, 1, none⟩ b).setCell ⟨B + 1 + 1 + 1 + 1, 2, none⟩ c).setCell ⟨B + 1 + 1 + 1 + 1, 3, none⟩ z).setCell ⟨B + 1 + 1 + 1 + 1 + 1, 0, none⟩ (.int .i64 e2)) (apB B p d t g e2 #[a, b, c, z] X) := by
  refine ⟨((((hm.setCell _ _).setCell _ _).setCell _ _).setCell _ _).setCell _ _, ?_⟩
  unfold apB at h ⊢
  have h4 := ((((h.perm (ap_perm _ _ _ _ _ _ _)).setCell (i := 0) a).setCell (i := 1) b).setCell (i := 2) c).setCell (i := 3) z
  have h5 := (h4.perm (star_left_comm _ _ _)).setCell (i := 0) (.int .i64 e2)
  exact (h5.perm (star_left_comm _ _ _)).perm (ap_perm _ _ _ _ _ _ _).symm
theorem zeroErr (w : World) : (zeroValue TErr).run Try.prog w = .ok (.int .i64 0) w := by kernel_rfl
/-- What a function that returns a tail and an error hands back. -/
theorem ap_end {w : World} {B p : Nat} {d e : Int} {t : TailM} {g : GenM} {c : Array Value} {X : HProp} (h : Sat w (apB B p d t g e c X)) (hc : c.size = 4) {tmps : Array Value} (h10 : tmps.getD 10 undef = .pointer (some ⟨B + 1 + 1 + 1 + 1, 0, none⟩)) (h11 : tmps.getD 11 undef = .pointer (some ⟨B + 1 + 1 + 1 + 1 + 1, 0, none⟩)) :
    (results Try.f15 tmps).run Try.prog w = .ok (.tuple #[.agg c, .int .i64 e]) w := by
  unfold apB at h
  have h5 := h.right.right.right.right.block
  have h6 := cells_at h.right.right.right.right.right.block
  refine results2 Try.results15 (ResIs.row h10 h5 Try.underlying31 rfl (infoTail hc)) (.cell h11 ?_)
  have h60 := h6 0
  simp at h60
  simp [loadVar, go_sem, h60]
set_option maxRecDepth 20000 in
theorem size_ex (n : Int) (h0 : 0 ≤ n) (h1 : n ≤ 9223372036854775807) : ∃ N : Int, ∀ w, Calls Try.prog 13 #[.int .i64 n] w fun e w' => e = .returned (.int .i64 N) ∧ w = w' := by
  by_cases hs : n ≤ 4611686018427387904
  · exact ⟨sizeM n, fun w => size_any n h0 hs w⟩
  · refine ⟨max 1 (wrap64 ((wrap64 (wrap64 (n + 26) - 1)).tdiv 26)), fun w => ?_⟩
    have hd : decide (n < 0) = false := decide_eq_false (by omega)
    go_enter Try.func13, Try.ntmps13
    go_wp2
    go_ret
    exact ⟨rfl, rfl⟩
theorem ap_below {w w' : World} {B p : Nat} {d e : Int} {t : TailM} {g : GenM} {c : Array Value} {X : HProp} (h : Sat w (apB B p d t g e c X)) (hb : Below w.heap.size w w') : Sat w' (apB B p d t g e c X) := Sat.below h hb
theorem ap_rest {w : World} {B p : Nat} {d e : Int} {t : TailM} {g : GenM} {c : Array Value} {X : HProp} (h : Sat w (apB B p d t g e c X)) : Sat w X := by unfold apB at h; exact h.right.right.right.right.right.right
theorem ap_rev (A B C D E F X : HProp) : F * (E * (D * (C * (B * (A * X))))) = A * (B * (C * (D * (E * (F * X))))) := by ac_rfl
theorem ap_new {w : World} {p : Nat} {d : Int} {t : TailM} {g : GenM} {X : HProp} (h : Sat w X) :
    Sat ((((((w.alloc (.cells #[.pointer (some ⟨p, 0, none⟩)] TShP)).alloc (.cells #[.int .i64 d] TInt)).alloc (.cells (tailA t) TTail)).alloc (.cells (genA g) TGen)).alloc (.cells zTail TTail)).alloc (.cells #[.int .i64 0] TErr)) (apB w.heap.size p d t g 0 zTail X) := by
  have h6 := (((((h.alloc (.cells #[.pointer (some ⟨p, 0, none⟩)] TShP)).alloc (.cells #[.int .i64 d] TInt)).alloc (.cells (tailA t) TTail)).alloc (.cells (genA g) TGen)).alloc (.cells zTail TTail)).alloc (.cells #[.int .i64 0] TErr)
  simp only [World.size_alloc] at h6
  unfold apB
  exact h6.perm (ap_rev _ _ _ _ _ _ _)
set_option maxHeartbeats 2000000 in
set_option maxRecDepth 20000 in
theorem append_arg (p : Nat) (S : ShelfM) (F : HProp) (d : Int) (nx nu ge gc ep cn : Int) (r : List UInt8) (bv bg bn : Bool) (hbv : (decide (0 ≤ d) && decide (d < S.cfg.disks) && tailV ⟨nx, nu, ⟨ge, gc⟩⟩) = bv) (hbg : genV ⟨ep, cn⟩ = bg) (hbn : newerM ⟨ep, cn⟩ ⟨ge, gc⟩ = bn) (HRL : (r.length : Int) ≤ 9223372036854775807) (hz : (bv && bg) = false) (w : World) (hS : Sat w (shelfAt SH p S * F)) :
    Calls Try.prog 15 #[.pointer (some ⟨p, 0, none⟩), .int .i64 d, .agg (tailA ⟨nx, nu, ⟨ge, gc⟩⟩), .agg (genA ⟨ep, cn⟩), .string (strB r)] w fun e w' => e = .returned (.tuple #[.agg zTail, .int .i64 1]) ∧ Hid (Same w w' ∧ Sat w' (shelfAt SH p S * F)) := by
  obtain ⟨N, hsz⟩ := size_ex (r.length : Int) (by omega) HRL
  have HSZ := Lib.hid hsz
  have HV := Lib.hid (show ∀ (W : World) (B : Nat), Sat W (apB B p d ⟨nx, nu, ⟨ge, gc⟩⟩ ⟨ep, cn⟩ 0 zTail (shelfAt SH p S * F)) → Calls Try.prog 26 #[.pointer (some ⟨p, 0, none⟩), .int .i64 d, .agg (tailA ⟨nx, nu, ⟨ge, gc⟩⟩)] W fun e w' => e = .returned (.bool bv) ∧ Below W.heap.size W w' from fun W B h => by
    unfold apB at h
    rw [← hbv]
    exact wvalid_any p S F d ⟨nx, nu, ⟨ge, gc⟩⟩ W h.right.right.right.right.right.right)
  have HVG := Lib.hid (show ∀ W, Calls Try.prog 28 #[.agg (genA ⟨ep, cn⟩)] W fun e w' => e = .returned (.bool bg) ∧ Below W.heap.size W w' from fun W => by rw [← hbg]; exact wvalidGen_any ⟨ep, cn⟩ W)
  have HNW := Lib.hid (show ∀ W, Calls Try.prog 29 #[.agg (genA ⟨ep, cn⟩), .agg (genA ⟨ge, gc⟩)] W fun e w' => e = .returned (.bool bn) ∧ Below W.heap.size W w' from fun W => by rw [← hbn]; exact newer_any ⟨ep, cn⟩ ⟨ge, gc⟩ W)
  have H1 := Lib.hid (show Same w ((((((w.alloc (.cells #[.pointer (some ⟨p, 0, none⟩)] TShP)).alloc (.cells #[.int .i64 d] TInt)).alloc (.cells (tailA ⟨nx, nu, ⟨ge, gc⟩⟩) TTail)).alloc (.cells (genA ⟨ep, cn⟩) TGen)).alloc (.cells zTail TTail)).alloc (.cells #[.int .i64 0] TErr)) ∧ Sat ((((((w.alloc (.cells #[.pointer (some ⟨p, 0, none⟩)] TShP)).alloc (.cells #[.int .i64 d] TInt)).alloc (.cells (tailA ⟨nx, nu, ⟨ge, gc⟩⟩) TTail)).alloc (.cells (genA ⟨ep, cn⟩) TGen)).alloc (.cells zTail TTail)).alloc (.cells #[.int .i64 0] TErr)) (apB w.heap.size p d ⟨nx, nu, ⟨ge, gc⟩⟩ ⟨ep, cn⟩ 0 zTail (shelfAt SH p S * F)) from ⟨((((((Same.refl w).alloc _).alloc _).alloc _).alloc _).alloc _).alloc _, ap_new hS⟩)
  have hlen : (strB r).size = r.length := strB_size r
  clear hS hsz hbv hbg hbn HRL
  cases hv : bv
  · rw [hv] at HV
    clear hz
    go_enter Try.func15, Try.ntmps15
    go_upto_region 1 with (first
      | ((with_reducible (refine wpList_alloc_zero ?_ TTail ?_ _ (zeroTail _) ?_)); rfl; rfl))
    generalize (((((w.alloc (.cells #[.pointer (some ⟨p, 0, none⟩)] TShP)).alloc (.cells #[.int .i64 d] TInt)).alloc (.cells (tailA ⟨nx, nu, ⟨ge, gc⟩⟩) TTail)).alloc (.cells (genA ⟨ep, cn⟩) TGen)).alloc (.cells zTail TTail)).alloc (.cells #[.int .i64 0] TErr) = w1 at H1 ⊢
    generalize w.heap.size = B at H1 ⊢
    obtain ⟨a0, a1, ⟨t0, t1, t2, t3⟩, ⟨g0', g1'⟩, l0, l1, l2, l3, l4, l5⟩ := ap_cells H1.out.2
    obtain ⟨⟨r0, r1, r2, r3, r4⟩, s0, s1, s2, s3, s4⟩ := ap_res H1.out.2
    go_wp2_with (first
      | (go_at_call 13; refine (HSZ.out _).mono ?_; rintro e w' ⟨rfl, rfl⟩)
      | (go_at_call 26; refine (HV.out _ _ H1.out.2).mono ?_; rintro e w2 ⟨rfl, hb⟩; replace H1 := Lib.hid (And.intro (H1.out.1.below hb) (ap_below H1.out.2 hb)); clear a0 a1 t0 t1 t2 t3 g0' g1' l0 l1 l2 l3 l4 l5 r0 r1 r2 r3 r4 s0 s1 s2 s3 s4; clear hb; obtain ⟨a0, a1, ⟨t0, t1, t2, t3⟩, ⟨g0', g1'⟩, l0, l1, l2, l3, l4, l5⟩ := ap_cells H1.out.2; obtain ⟨⟨r0, r1, r2, r3, r4⟩, s0, s1, s2, s3, s4⟩ := ap_res H1.out.2)
      | (go_at_call 28; refine (HVG.out _).mono ?_; rintro e w3 ⟨rfl, hb⟩; replace H1 := Lib.hid (And.intro (H1.out.1.below hb) (ap_below H1.out.2 hb)); clear a0 a1 t0 t1 t2 t3 g0' g1' l0 l1 l2 l3 l4 l5 r0 r1 r2 r3 r4 s0 s1 s2 s3 s4; clear hb; obtain ⟨a0, a1, ⟨t0, t1, t2, t3⟩, ⟨g0', g1'⟩, l0, l1, l2, l3, l4, l5⟩ := ap_cells H1.out.2; obtain ⟨⟨r0, r1, r2, r3, r4⟩, s0, s1, s2, s3, s4⟩ := ap_res H1.out.2)
      | (go_at_call 29; refine (HNW.out _).mono ?_; rintro e w4 ⟨rfl, hb⟩; replace H1 := Lib.hid (And.intro (H1.out.1.below hb) (ap_below H1.out.2 hb)); clear a0 a1 t0 t1 t2 t3 g0' g1' l0 l1 l2 l3 l4 l5 r0 r1 r2 r3 r4 s0 s1 s2 s3 s4; clear hb; obtain ⟨a0, a1, ⟨t0, t1, t2, t3⟩, ⟨g0', g1'⟩, l0, l1, l2, l3, l4, l5⟩ := ap_cells H1.out.2; obtain ⟨⟨r0, r1, r2, r3, r4⟩, s0, s1, s2, s3, s4⟩ := ap_res H1.out.2)
      | fail)
    replace H1 := Lib.hid (ap_store H1.out.1 H1.out.2 (.int .i64 0) (.int .i64 0) (.int .i64 0) (.int .i64 0) 1)
    refine bodyPost_ret (v := .tuple #[.agg zTail, .int .i64 1]) (ap_end H1.out.2 rfl rfl rfl) rfl ?_
    exact ⟨rfl, H1.out.1, ap_rest H1.out.2⟩
  · have hg : bg = false := by rw [hv] at hz; simpa using hz
    rw [hv] at HV
    rw [hg] at HVG
    clear hz hg hv
    go_enter Try.func15, Try.ntmps15
    go_upto_region 1 with (first
      | ((with_reducible (refine wpList_alloc_zero ?_ TTail ?_ _ (zeroTail _) ?_)); rfl; rfl))
    generalize (((((w.alloc (.cells #[.pointer (some ⟨p, 0, none⟩)] TShP)).alloc (.cells #[.int .i64 d] TInt)).alloc (.cells (tailA ⟨nx, nu, ⟨ge, gc⟩⟩) TTail)).alloc (.cells (genA ⟨ep, cn⟩) TGen)).alloc (.cells zTail TTail)).alloc (.cells #[.int .i64 0] TErr) = w1 at H1 ⊢
    generalize w.heap.size = B at H1 ⊢
    obtain ⟨a0, a1, ⟨t0, t1, t2, t3⟩, ⟨g0', g1'⟩, l0, l1, l2, l3, l4, l5⟩ := ap_cells H1.out.2
    obtain ⟨⟨r0, r1, r2, r3, r4⟩, s0, s1, s2, s3, s4⟩ := ap_res H1.out.2
    go_wp2_with (first
      | (go_at_call 13; refine (HSZ.out _).mono ?_; rintro e w' ⟨rfl, rfl⟩)
      | (go_at_call 26; refine (HV.out _ _ H1.out.2).mono ?_; rintro e w2 ⟨rfl, hb⟩; replace H1 := Lib.hid (And.intro (H1.out.1.below hb) (ap_below H1.out.2 hb)); clear a0 a1 t0 t1 t2 t3 g0' g1' l0 l1 l2 l3 l4 l5 r0 r1 r2 r3 r4 s0 s1 s2 s3 s4; clear hb; obtain ⟨a0, a1, ⟨t0, t1, t2, t3⟩, ⟨g0', g1'⟩, l0, l1, l2, l3, l4, l5⟩ := ap_cells H1.out.2; obtain ⟨⟨r0, r1, r2, r3, r4⟩, s0, s1, s2, s3, s4⟩ := ap_res H1.out.2)
      | (go_at_call 28; refine (HVG.out _).mono ?_; rintro e w3 ⟨rfl, hb⟩; replace H1 := Lib.hid (And.intro (H1.out.1.below hb) (ap_below H1.out.2 hb)); clear a0 a1 t0 t1 t2 t3 g0' g1' l0 l1 l2 l3 l4 l5 r0 r1 r2 r3 r4 s0 s1 s2 s3 s4; clear hb; obtain ⟨a0, a1, ⟨t0, t1, t2, t3⟩, ⟨g0', g1'⟩, l0, l1, l2, l3, l4, l5⟩ := ap_cells H1.out.2; obtain ⟨⟨r0, r1, r2, r3, r4⟩, s0, s1, s2, s3, s4⟩ := ap_res H1.out.2)
      | (go_at_call 29; refine (HNW.out _).mono ?_; rintro e w4 ⟨rfl, hb⟩; replace H1 := Lib.hid (And.intro (H1.out.1.below hb) (ap_below H1.out.2 hb)); clear a0 a1 t0 t1 t2 t3 g0' g1' l0 l1 l2 l3 l4 l5 r0 r1 r2 r3 r4 s0 s1 s2 s3 s4; clear hb; obtain ⟨a0, a1, ⟨t0, t1, t2, t3⟩, ⟨g0', g1'⟩, l0, l1, l2, l3, l4, l5⟩ := ap_cells H1.out.2; obtain ⟨⟨r0, r1, r2, r3, r4⟩, s0, s1, s2, s3, s4⟩ := ap_res H1.out.2)
      | fail)
    replace H1 := Lib.hid (ap_store H1.out.1 H1.out.2 (.int .i64 0) (.int .i64 0) (.int .i64 0) (.int .i64 0) 1)
    refine bodyPost_ret (v := .tuple #[.agg zTail, .int .i64 1]) (ap_end H1.out.2 rfl rfl rfl) rfl ?_
    exact ⟨rfl, H1.out.1, ap_rest H1.out.2⟩
set_option maxHeartbeats 2000000 in
set_option maxRecDepth 20000 in
theorem append_stale (p : Nat) (S : ShelfM) (F : HProp) (d : Int) (nx nu ge gc ep cn : Int) (r : List UInt8) (bv bg bn : Bool) (hbv : (decide (0 ≤ d) && decide (d < S.cfg.disks) && tailV ⟨nx, nu, ⟨ge, gc⟩⟩) = bv) (hbg : genV ⟨ep, cn⟩ = bg) (hbn : newerM ⟨ep, cn⟩ ⟨ge, gc⟩ = bn) (HRL : (r.length : Int) ≤ 9223372036854775807) (hv : bv = true) (hg : bg = true) (hn : bn = false) (w : World) (hS : Sat w (shelfAt SH p S * F)) :
    Calls Try.prog 15 #[.pointer (some ⟨p, 0, none⟩), .int .i64 d, .agg (tailA ⟨nx, nu, ⟨ge, gc⟩⟩), .agg (genA ⟨ep, cn⟩), .string (strB r)] w fun e w' => e = .returned (.tuple #[.agg zTail, .int .i64 9]) ∧ Hid (Same w w' ∧ Sat w' (shelfAt SH p S * F)) := by
  obtain ⟨N, hsz⟩ := size_ex (r.length : Int) (by omega) HRL
  have HSZ := Lib.hid hsz
  have HV := Lib.hid (show ∀ (W : World) (B : Nat), Sat W (apB B p d ⟨nx, nu, ⟨ge, gc⟩⟩ ⟨ep, cn⟩ 0 zTail (shelfAt SH p S * F)) → Calls Try.prog 26 #[.pointer (some ⟨p, 0, none⟩), .int .i64 d, .agg (tailA ⟨nx, nu, ⟨ge, gc⟩⟩)] W fun e w' => e = .returned (.bool bv) ∧ Below W.heap.size W w' from fun W B h => by
    unfold apB at h
    rw [← hbv]
    exact wvalid_any p S F d ⟨nx, nu, ⟨ge, gc⟩⟩ W h.right.right.right.right.right.right)
  have HVG := Lib.hid (show ∀ W, Calls Try.prog 28 #[.agg (genA ⟨ep, cn⟩)] W fun e w' => e = .returned (.bool bg) ∧ Below W.heap.size W w' from fun W => by rw [← hbg]; exact wvalidGen_any ⟨ep, cn⟩ W)
  have HNW := Lib.hid (show ∀ W, Calls Try.prog 29 #[.agg (genA ⟨ep, cn⟩), .agg (genA ⟨ge, gc⟩)] W fun e w' => e = .returned (.bool bn) ∧ Below W.heap.size W w' from fun W => by rw [← hbn]; exact newer_any ⟨ep, cn⟩ ⟨ge, gc⟩ W)
  have H1 := Lib.hid (show Same w ((((((w.alloc (.cells #[.pointer (some ⟨p, 0, none⟩)] TShP)).alloc (.cells #[.int .i64 d] TInt)).alloc (.cells (tailA ⟨nx, nu, ⟨ge, gc⟩⟩) TTail)).alloc (.cells (genA ⟨ep, cn⟩) TGen)).alloc (.cells zTail TTail)).alloc (.cells #[.int .i64 0] TErr)) ∧ Sat ((((((w.alloc (.cells #[.pointer (some ⟨p, 0, none⟩)] TShP)).alloc (.cells #[.int .i64 d] TInt)).alloc (.cells (tailA ⟨nx, nu, ⟨ge, gc⟩⟩) TTail)).alloc (.cells (genA ⟨ep, cn⟩) TGen)).alloc (.cells zTail TTail)).alloc (.cells #[.int .i64 0] TErr)) (apB w.heap.size p d ⟨nx, nu, ⟨ge, gc⟩⟩ ⟨ep, cn⟩ 0 zTail (shelfAt SH p S * F)) from ⟨((((((Same.refl w).alloc _).alloc _).alloc _).alloc _).alloc _).alloc _, ap_new hS⟩)
  have hlen : (strB r).size = r.length := strB_size r
  clear hS hsz hbv hbg hbn HRL
  rw [hv] at HV
  rw [hg] at HVG
  clear hv hg
  rw [hn] at HNW
  clear hn
  go_enter Try.func15, Try.ntmps15
  go_upto_region 1 with (first
    | ((with_reducible (refine wpList_alloc_zero ?_ TTail ?_ _ (zeroTail _) ?_)); rfl; rfl))
  generalize (((((w.alloc (.cells #[.pointer (some ⟨p, 0, none⟩)] TShP)).alloc (.cells #[.int .i64 d] TInt)).alloc (.cells (tailA ⟨nx, nu, ⟨ge, gc⟩⟩) TTail)).alloc (.cells (genA ⟨ep, cn⟩) TGen)).alloc (.cells zTail TTail)).alloc (.cells #[.int .i64 0] TErr) = w1 at H1 ⊢
  generalize w.heap.size = B at H1 ⊢
  obtain ⟨a0, a1, ⟨t0, t1, t2, t3⟩, ⟨g0', g1'⟩, l0, l1, l2, l3, l4, l5⟩ := ap_cells H1.out.2
  obtain ⟨⟨r0, r1, r2, r3, r4⟩, s0, s1, s2, s3, s4⟩ := ap_res H1.out.2
  go_wp2_with (first
    | (go_at_call 13; refine (HSZ.out _).mono ?_; rintro e w' ⟨rfl, rfl⟩)
    | (go_at_call 26; refine (HV.out _ _ H1.out.2).mono ?_; rintro e w2 ⟨rfl, hb⟩; replace H1 := Lib.hid (And.intro (H1.out.1.below hb) (ap_below H1.out.2 hb)); clear a0 a1 t0 t1 t2 t3 g0' g1' l0 l1 l2 l3 l4 l5 r0 r1 r2 r3 r4 s0 s1 s2 s3 s4; clear hb; obtain ⟨a0, a1, ⟨t0, t1, t2, t3⟩, ⟨g0', g1'⟩, l0, l1, l2, l3, l4, l5⟩ := ap_cells H1.out.2; obtain ⟨⟨r0, r1, r2, r3, r4⟩, s0, s1, s2, s3, s4⟩ := ap_res H1.out.2)
    | (go_at_call 28; refine (HVG.out _).mono ?_; rintro e w3 ⟨rfl, hb⟩; replace H1 := Lib.hid (And.intro (H1.out.1.below hb) (ap_below H1.out.2 hb)); clear a0 a1 t0 t1 t2 t3 g0' g1' l0 l1 l2 l3 l4 l5 r0 r1 r2 r3 r4 s0 s1 s2 s3 s4; clear hb; obtain ⟨a0, a1, ⟨t0, t1, t2, t3⟩, ⟨g0', g1'⟩, l0, l1, l2, l3, l4, l5⟩ := ap_cells H1.out.2; obtain ⟨⟨r0, r1, r2, r3, r4⟩, s0, s1, s2, s3, s4⟩ := ap_res H1.out.2)
    | (go_at_call 29; refine (HNW.out _).mono ?_; rintro e w4 ⟨rfl, hb⟩; replace H1 := Lib.hid (And.intro (H1.out.1.below hb) (ap_below H1.out.2 hb)); clear a0 a1 t0 t1 t2 t3 g0' g1' l0 l1 l2 l3 l4 l5 r0 r1 r2 r3 r4 s0 s1 s2 s3 s4; clear hb; obtain ⟨a0, a1, ⟨t0, t1, t2, t3⟩, ⟨g0', g1'⟩, l0, l1, l2, l3, l4, l5⟩ := ap_cells H1.out.2; obtain ⟨⟨r0, r1, r2, r3, r4⟩, s0, s1, s2, s3, s4⟩ := ap_res H1.out.2)
    | fail)
  replace H1 := Lib.hid (ap_store H1.out.1 H1.out.2 (.int .i64 0) (.int .i64 0) (.int .i64 0) (.int .i64 0) 9)
  refine bodyPost_ret (v := .tuple #[.agg zTail, .int .i64 9]) (ap_end H1.out.2 rfl rfl rfl) rfl ?_
  exact ⟨rfl, H1.out.1, ap_rest H1.out.2⟩
set_option maxHeartbeats 2000000 in
set_option maxRecDepth 20000 in
theorem append_long (p : Nat) (S : ShelfM) (F : HProp) (d : Int) (nx nu ge gc ep cn : Int) (r : List UInt8) (bv bg bn : Bool) (hbv : (decide (0 ≤ d) && decide (d < S.cfg.disks) && tailV ⟨nx, nu, ⟨ge, gc⟩⟩) = bv) (hbg : genV ⟨ep, cn⟩ = bg) (hbn : newerM ⟨ep, cn⟩ ⟨ge, gc⟩ = bn) (HRL : (r.length : Int) ≤ 9223372036854775807) (hv : bv = true) (hg : bg = true) (hn : bn = true) (hl : 4096 < r.length) (w : World) (hS : Sat w (shelfAt SH p S * F)) :
    Calls Try.prog 15 #[.pointer (some ⟨p, 0, none⟩), .int .i64 d, .agg (tailA ⟨nx, nu, ⟨ge, gc⟩⟩), .agg (genA ⟨ep, cn⟩), .string (strB r)] w fun e w' => e = .returned (.tuple #[.agg zTail, .int .i64 2]) ∧ Hid (Same w w' ∧ Sat w' (shelfAt SH p S * F)) := by
  obtain ⟨N, hsz⟩ := size_ex (r.length : Int) (by omega) HRL
  have HSZ := Lib.hid hsz
  have HV := Lib.hid (show ∀ (W : World) (B : Nat), Sat W (apB B p d ⟨nx, nu, ⟨ge, gc⟩⟩ ⟨ep, cn⟩ 0 zTail (shelfAt SH p S * F)) → Calls Try.prog 26 #[.pointer (some ⟨p, 0, none⟩), .int .i64 d, .agg (tailA ⟨nx, nu, ⟨ge, gc⟩⟩)] W fun e w' => e = .returned (.bool bv) ∧ Below W.heap.size W w' from fun W B h => by
    unfold apB at h
    rw [← hbv]
    exact wvalid_any p S F d ⟨nx, nu, ⟨ge, gc⟩⟩ W h.right.right.right.right.right.right)
  have HVG := Lib.hid (show ∀ W, Calls Try.prog 28 #[.agg (genA ⟨ep, cn⟩)] W fun e w' => e = .returned (.bool bg) ∧ Below W.heap.size W w' from fun W => by rw [← hbg]; exact wvalidGen_any ⟨ep, cn⟩ W)
  have HNW := Lib.hid (show ∀ W, Calls Try.prog 29 #[.agg (genA ⟨ep, cn⟩), .agg (genA ⟨ge, gc⟩)] W fun e w' => e = .returned (.bool bn) ∧ Below W.heap.size W w' from fun W => by rw [← hbn]; exact newer_any ⟨ep, cn⟩ ⟨ge, gc⟩ W)
  have H1 := Lib.hid (show Same w ((((((w.alloc (.cells #[.pointer (some ⟨p, 0, none⟩)] TShP)).alloc (.cells #[.int .i64 d] TInt)).alloc (.cells (tailA ⟨nx, nu, ⟨ge, gc⟩⟩) TTail)).alloc (.cells (genA ⟨ep, cn⟩) TGen)).alloc (.cells zTail TTail)).alloc (.cells #[.int .i64 0] TErr)) ∧ Sat ((((((w.alloc (.cells #[.pointer (some ⟨p, 0, none⟩)] TShP)).alloc (.cells #[.int .i64 d] TInt)).alloc (.cells (tailA ⟨nx, nu, ⟨ge, gc⟩⟩) TTail)).alloc (.cells (genA ⟨ep, cn⟩) TGen)).alloc (.cells zTail TTail)).alloc (.cells #[.int .i64 0] TErr)) (apB w.heap.size p d ⟨nx, nu, ⟨ge, gc⟩⟩ ⟨ep, cn⟩ 0 zTail (shelfAt SH p S * F)) from ⟨((((((Same.refl w).alloc _).alloc _).alloc _).alloc _).alloc _).alloc _, ap_new hS⟩)
  have hlen : (strB r).size = r.length := strB_size r
  clear hS hsz hbv hbg hbn HRL
  rw [hv] at HV
  rw [hg] at HVG
  clear hv hg
  rw [hn] at HNW
  have hld : decide ((4096 : Int) < (r.length : Int)) = true := decide_eq_true (by omega)
  clear hn hl
  go_enter Try.func15, Try.ntmps15
  go_upto_region 1 with (first
    | ((with_reducible (refine wpList_alloc_zero ?_ TTail ?_ _ (zeroTail _) ?_)); rfl; rfl))
  generalize (((((w.alloc (.cells #[.pointer (some ⟨p, 0, none⟩)] TShP)).alloc (.cells #[.int .i64 d] TInt)).alloc (.cells (tailA ⟨nx, nu, ⟨ge, gc⟩⟩) TTail)).alloc (.cells (genA ⟨ep, cn⟩) TGen)).alloc (.cells zTail TTail)).alloc (.cells #[.int .i64 0] TErr) = w1 at H1 ⊢
  generalize w.heap.size = B at H1 ⊢
  obtain ⟨a0, a1, ⟨t0, t1, t2, t3⟩, ⟨g0', g1'⟩, l0, l1, l2, l3, l4, l5⟩ := ap_cells H1.out.2
  obtain ⟨⟨r0, r1, r2, r3, r4⟩, s0, s1, s2, s3, s4⟩ := ap_res H1.out.2
  go_wp2_with (first
    | (go_at_call 13; refine (HSZ.out _).mono ?_; rintro e w' ⟨rfl, rfl⟩)
    | (go_at_call 26; refine (HV.out _ _ H1.out.2).mono ?_; rintro e w2 ⟨rfl, hb⟩; replace H1 := Lib.hid (And.intro (H1.out.1.below hb) (ap_below H1.out.2 hb)); clear a0 a1 t0 t1 t2 t3 g0' g1' l0 l1 l2 l3 l4 l5 r0 r1 r2 r3 r4 s0 s1 s2 s3 s4; clear hb; obtain ⟨a0, a1, ⟨t0, t1, t2, t3⟩, ⟨g0', g1'⟩, l0, l1, l2, l3, l4, l5⟩ := ap_cells H1.out.2; obtain ⟨⟨r0, r1, r2, r3, r4⟩, s0, s1, s2, s3, s4⟩ := ap_res H1.out.2)
    | (go_at_call 28; refine (HVG.out _).mono ?_; rintro e w3 ⟨rfl, hb⟩; replace H1 := Lib.hid (And.intro (H1.out.1.below hb) (ap_below H1.out.2 hb)); clear a0 a1 t0 t1 t2 t3 g0' g1' l0 l1 l2 l3 l4 l5 r0 r1 r2 r3 r4 s0 s1 s2 s3 s4; clear hb; obtain ⟨a0, a1, ⟨t0, t1, t2, t3⟩, ⟨g0', g1'⟩, l0, l1, l2, l3, l4, l5⟩ := ap_cells H1.out.2; obtain ⟨⟨r0, r1, r2, r3, r4⟩, s0, s1, s2, s3, s4⟩ := ap_res H1.out.2)
    | (go_at_call 29; refine (HNW.out _).mono ?_; rintro e w4 ⟨rfl, hb⟩; replace H1 := Lib.hid (And.intro (H1.out.1.below hb) (ap_below H1.out.2 hb)); clear a0 a1 t0 t1 t2 t3 g0' g1' l0 l1 l2 l3 l4 l5 r0 r1 r2 r3 r4 s0 s1 s2 s3 s4; clear hb; obtain ⟨a0, a1, ⟨t0, t1, t2, t3⟩, ⟨g0', g1'⟩, l0, l1, l2, l3, l4, l5⟩ := ap_cells H1.out.2; obtain ⟨⟨r0, r1, r2, r3, r4⟩, s0, s1, s2, s3, s4⟩ := ap_res H1.out.2)
    | fail)
  replace H1 := Lib.hid (ap_store H1.out.1 H1.out.2 (.int .i64 0) (.int .i64 0) (.int .i64 0) (.int .i64 0) 2)
  refine bodyPost_ret (v := .tuple #[.agg zTail, .int .i64 2]) (ap_end H1.out.2 rfl rfl rfl) rfl ?_
  exact ⟨rfl, H1.out.1, ap_rest H1.out.2⟩
theorem ap_cells2 {w : World} {B p : Nat} {d e : Int} {nx nu : Int} {ge : GenM} {g : GenM} {c : Array Value} {X : HProp} (h : Sat w (apB B p d ⟨nx, nu, ge⟩ g e c X)) : w.cell? ⟨B, 0, none⟩ = some (.pointer (some ⟨p, 0, none⟩)) ∧ w.cell? ⟨B + 1 + 1, 0, none⟩ = some (.int .i64 nx) :=
  let h1 := ap_cells h
  ⟨h1.1, h1.2.2.1.1⟩
set_option maxHeartbeats 2000000 in
set_option maxRecDepth 20000 in
theorem append_full (p : Nat) (S : ShelfM) (F : HProp) (d : Int) (nx nu ge gc ep cn : Int) (r : List UInt8) (bv bg bn : Bool) (hbv : (decide (0 ≤ d) && decide (d < S.cfg.disks) && tailV ⟨nx, nu, ⟨ge, gc⟩⟩) = bv) (hbg : genV ⟨ep, cn⟩ = bg) (hbn : newerM ⟨ep, cn⟩ ⟨ge, gc⟩ = bn) (HRL : (r.length : Int) ≤ 4611686018427387904) (hv : bv = true) (hg : bg = true) (hn : bn = true) (hl : r.length ≤ 4096) (hnx : 0 ≤ nx ∧ nx ≤ 2147483647) (hfull : logN S.cfg < nx + (recN r : Int)) (w : World) (hS : Sat w (shelfAt SH p S * F)) :
    Calls Try.prog 15 #[.pointer (some ⟨p, 0, none⟩), .int .i64 d, .agg (tailA ⟨nx, nu, ⟨ge, gc⟩⟩), .agg (genA ⟨ep, cn⟩), .string (strB r)] w fun e w' => e = .returned (.tuple #[.agg zTail, .int .i64 16]) ∧ Hid (Same w w' ∧ Sat w' (shelfAt SH p S * F)) := by
  have HCF := Lib.hid (show ∀ (W : World) (B : Nat), Sat W (apB B p d ⟨nx, nu, ⟨ge, gc⟩⟩ ⟨ep, cn⟩ 0 zTail (shelfAt SH p S * F)) → Calls Try.prog 31 #[.pointer (some ⟨p, 0, none⟩)] W fun e w' => e = .returned (.agg (cfgA S.cfg)) ∧ Below W.heap.size W w' from fun W B h => config_any p S F W (ap_rest h))
  have hlg := (shelfAt_wf hS).cfg.log
  have HWS := Lib.hid (fun W => wsectors_any S.cfg hlg.2 (by omega) W)
  have hsum : IntKind.i64.wrap (nx + (recN r : Int)) = nx + (recN r : Int) := IntWalk.i64_in _ (by have := recN_eq r; omega)
  clear hlg
  have hsz := fun W => size_any (r.length : Int) (by omega) HRL W
  rw [← recN_val] at hsz
  have HSZ := Lib.hid hsz
  have HV := Lib.hid (show ∀ (W : World) (B : Nat), Sat W (apB B p d ⟨nx, nu, ⟨ge, gc⟩⟩ ⟨ep, cn⟩ 0 zTail (shelfAt SH p S * F)) → Calls Try.prog 26 #[.pointer (some ⟨p, 0, none⟩), .int .i64 d, .agg (tailA ⟨nx, nu, ⟨ge, gc⟩⟩)] W fun e w' => e = .returned (.bool bv) ∧ Below W.heap.size W w' from fun W B h => by
    unfold apB at h
    rw [← hbv]
    exact wvalid_any p S F d ⟨nx, nu, ⟨ge, gc⟩⟩ W h.right.right.right.right.right.right)
  have HVG := Lib.hid (show ∀ W, Calls Try.prog 28 #[.agg (genA ⟨ep, cn⟩)] W fun e w' => e = .returned (.bool bg) ∧ Below W.heap.size W w' from fun W => by rw [← hbg]; exact wvalidGen_any ⟨ep, cn⟩ W)
  have HNW := Lib.hid (show ∀ W, Calls Try.prog 29 #[.agg (genA ⟨ep, cn⟩), .agg (genA ⟨ge, gc⟩)] W fun e w' => e = .returned (.bool bn) ∧ Below W.heap.size W w' from fun W => by rw [← hbn]; exact newer_any ⟨ep, cn⟩ ⟨ge, gc⟩ W)
  have H1 := Lib.hid (show Same w ((((((w.alloc (.cells #[.pointer (some ⟨p, 0, none⟩)] TShP)).alloc (.cells #[.int .i64 d] TInt)).alloc (.cells (tailA ⟨nx, nu, ⟨ge, gc⟩⟩) TTail)).alloc (.cells (genA ⟨ep, cn⟩) TGen)).alloc (.cells zTail TTail)).alloc (.cells #[.int .i64 0] TErr)) ∧ Sat ((((((w.alloc (.cells #[.pointer (some ⟨p, 0, none⟩)] TShP)).alloc (.cells #[.int .i64 d] TInt)).alloc (.cells (tailA ⟨nx, nu, ⟨ge, gc⟩⟩) TTail)).alloc (.cells (genA ⟨ep, cn⟩) TGen)).alloc (.cells zTail TTail)).alloc (.cells #[.int .i64 0] TErr)) (apB w.heap.size p d ⟨nx, nu, ⟨ge, gc⟩⟩ ⟨ep, cn⟩ 0 zTail (shelfAt SH p S * F)) from ⟨((((((Same.refl w).alloc _).alloc _).alloc _).alloc _).alloc _).alloc _, ap_new hS⟩)
  have hlen : (strB r).size = r.length := strB_size r
  clear hS hsz hbv hbg hbn HRL
  rw [hv] at HV
  rw [hg] at HVG
  clear hv hg
  rw [hn] at HNW
  have hld : decide ((4096 : Int) < (r.length : Int)) = false := decide_eq_false (by omega)
  clear hn hl
  go_enter Try.func15, Try.ntmps15
  go_upto_region 1 with (first
    | ((with_reducible (refine wpList_alloc_zero ?_ TTail ?_ _ (zeroTail _) ?_)); rfl; rfl))
  generalize (((((w.alloc (.cells #[.pointer (some ⟨p, 0, none⟩)] TShP)).alloc (.cells #[.int .i64 d] TInt)).alloc (.cells (tailA ⟨nx, nu, ⟨ge, gc⟩⟩) TTail)).alloc (.cells (genA ⟨ep, cn⟩) TGen)).alloc (.cells zTail TTail)).alloc (.cells #[.int .i64 0] TErr) = w1 at H1 ⊢
  generalize w.heap.size = B at H1 ⊢
  obtain ⟨a0, a1, ⟨t0, t1, t2, t3⟩, ⟨g0', g1'⟩, l0, l1, l2, l3, l4, l5⟩ := ap_cells H1.out.2
  obtain ⟨⟨r0, r1, r2, r3, r4⟩, s0, s1, s2, s3, s4⟩ := ap_res H1.out.2
  go_upto_region 8 with (first
    | (go_at_call 13; refine (HSZ.out _).mono ?_; rintro e w' ⟨rfl, rfl⟩)
    | (go_at_call 26; refine (HV.out _ _ H1.out.2).mono ?_; rintro e w2 ⟨rfl, hb⟩; replace H1 := Lib.hid (And.intro (H1.out.1.below hb) (ap_below H1.out.2 hb)); clear a0 a1 t0 t1 t2 t3 g0' g1' l0 l1 l2 l3 l4 l5 r0 r1 r2 r3 r4 s0 s1 s2 s3 s4; clear hb; obtain ⟨a0, a1, ⟨t0, t1, t2, t3⟩, ⟨g0', g1'⟩, l0, l1, l2, l3, l4, l5⟩ := ap_cells H1.out.2; obtain ⟨⟨r0, r1, r2, r3, r4⟩, s0, s1, s2, s3, s4⟩ := ap_res H1.out.2)
    | (go_at_call 28; refine (HVG.out _).mono ?_; rintro e w3 ⟨rfl, hb⟩; replace H1 := Lib.hid (And.intro (H1.out.1.below hb) (ap_below H1.out.2 hb)); clear a0 a1 t0 t1 t2 t3 g0' g1' l0 l1 l2 l3 l4 l5 r0 r1 r2 r3 r4 s0 s1 s2 s3 s4; clear hb; obtain ⟨a0, a1, ⟨t0, t1, t2, t3⟩, ⟨g0', g1'⟩, l0, l1, l2, l3, l4, l5⟩ := ap_cells H1.out.2; obtain ⟨⟨r0, r1, r2, r3, r4⟩, s0, s1, s2, s3, s4⟩ := ap_res H1.out.2)
    | (go_at_call 29; refine (HNW.out _).mono ?_; rintro e w4 ⟨rfl, hb⟩; replace H1 := Lib.hid (And.intro (H1.out.1.below hb) (ap_below H1.out.2 hb)); clear a0 a1 t0 t1 t2 t3 g0' g1' l0 l1 l2 l3 l4 l5 r0 r1 r2 r3 r4 s0 s1 s2 s3 s4; clear hb; obtain ⟨a0, a1, ⟨t0, t1, t2, t3⟩, ⟨g0', g1'⟩, l0, l1, l2, l3, l4, l5⟩ := ap_cells H1.out.2; obtain ⟨⟨r0, r1, r2, r3, r4⟩, s0, s1, s2, s3, s4⟩ := ap_res H1.out.2)
    | fail)
  clear a0 a1 t0 t1 t2 t3 g0' g1' l0 l1 l2 l3 l4 l5 r0 r1 r2 r3 r4 s0 s1 s2 s3 s4
  replace H1 := Lib.hid (And.intro H1.out.1.drew (show Sat _ (apB B p d ⟨nx, nu, ⟨ge, gc⟩⟩ ⟨ep, cn⟩ 0 zTail (shelfAt SH p S * F)) from H1.out.2.drew))
  have hS0 := ap_cells2 H1.out.2
  refine reg_begin (fun w' => w'.cell? ⟨B, 0, none⟩ = some (.pointer (some ⟨p, 0, none⟩)) ∧ w'.cell? ⟨B + 1 + 1, 0, none⟩ = some (.int .i64 nx)) (by kernel_rfl) ?_
  (apply reg_take 0 rfl rfl (by decide +kernel) rfl); (rintro w' ⟨h1, h2⟩; go_simp; rfl); exact hS0; simp only [List.setIfInBounds_toArray, List.set_cons_succ, List.set_cons_zero]
  (apply reg_take 1 rfl rfl (by decide +kernel) rfl); (rintro w' ⟨h1, h2⟩; go_simp; rfl); exact hS0; simp only [List.setIfInBounds_toArray, List.set_cons_succ, List.set_cons_zero]
  (apply reg_take 2 rfl rfl (by decide +kernel) rfl); (rintro w' ⟨h1, h2⟩; go_simp; rfl); exact hS0; simp only [List.setIfInBounds_toArray, List.set_cons_succ, List.set_cons_zero]
  (apply reg_take 3 rfl rfl (by decide +kernel) rfl); (rintro w' ⟨h1, h2⟩; go_simp; rfl); exact hS0; simp only [List.setIfInBounds_toArray, List.set_cons_succ, List.set_cons_zero]
  (apply reg_take 4 rfl rfl (by decide +kernel) rfl); (rintro w' ⟨h1, h2⟩; go_simp; rfl); exact hS0; simp only [List.setIfInBounds_toArray, List.set_cons_succ, List.set_cons_zero]
  refine reg_call 5 rfl rfl (by decide +kernel) rfl (f := 31) (args := #[.pointer (some ⟨p, 0, none⟩)]) (R := fun v w' => v = .agg (cfgA S.cfg) ∧ Hid (Below w4.drew.heap.size w4.drew w')) (by kernel_rfl) ((HCF.out _ _ H1.out.2).mono fun e w' h => ⟨_, h.1, rfl, h.2⟩) ?_
  rintro _ w5 ⟨rfl, hb⟩
  replace H1 := Lib.hid (And.intro (H1.out.1.below hb.out) (ap_below H1.out.2 hb.out))
  replace hS0 := ap_cells2 H1.out.2
  refine ⟨hS0, ?_⟩
  simp only [List.setIfInBounds_toArray, List.set_cons_succ, List.set_cons_zero]
  refine reg_call 6 rfl rfl (by decide +kernel) rfl (f := 30) (args := #[.agg (cfgA S.cfg)]) (R := fun v w' => v = .int .i64 (logN S.cfg) ∧ Hid (Below w5.heap.size w5 w')) (by kernel_rfl) ((HWS.out w5).mono fun e w' h => ⟨_, h.1, rfl, h.2⟩) ?_
  rintro _ w6 ⟨rfl, hb2⟩
  replace H1 := Lib.hid (And.intro (H1.out.1.below hb2.out) (ap_below H1.out.2 hb2.out))
  replace hS0 := ap_cells2 H1.out.2
  refine ⟨hS0, ?_⟩
  simp only [List.setIfInBounds_toArray, List.set_cons_succ, List.set_cons_zero]
  refine reg_take 7 (v := .bool true) rfl rfl (by decide +kernel) rfl (fun w' _ => exec_binop rfl rfl rfl rfl (by simp [go_sem]; omega)) hS0 ?_; simp only [List.setIfInBounds_toArray, List.set_cons_succ, List.set_cons_zero]
  (apply reg_take 8 rfl rfl (by decide +kernel) rfl); (rintro w' ⟨h1, h2⟩; go_simp; rfl); exact hS0; simp only [List.setIfInBounds_toArray, List.set_cons_succ, List.set_cons_zero]
  refine reg_done (by decide +kernel) ?_
  clear hb hb2 hS0 hsum
  obtain ⟨a0, a1, ⟨t0, t1, t2, t3⟩, ⟨g0', g1'⟩, l0, l1, l2, l3, l4, l5⟩ := ap_cells H1.out.2
  obtain ⟨⟨r0, r1, r2, r3, r4⟩, s0, s1, s2, s3, s4⟩ := ap_res H1.out.2
  go_wp2_with (first
    | (go_at_call 13; refine (HSZ.out _).mono ?_; rintro e w' ⟨rfl, rfl⟩)
    | (go_at_call 26; refine (HV.out _ _ H1.out.2).mono ?_; rintro e w2 ⟨rfl, hb⟩; replace H1 := Lib.hid (And.intro (H1.out.1.below hb) (ap_below H1.out.2 hb)); clear a0 a1 t0 t1 t2 t3 g0' g1' l0 l1 l2 l3 l4 l5 r0 r1 r2 r3 r4 s0 s1 s2 s3 s4; clear hb; obtain ⟨a0, a1, ⟨t0, t1, t2, t3⟩, ⟨g0', g1'⟩, l0, l1, l2, l3, l4, l5⟩ := ap_cells H1.out.2; obtain ⟨⟨r0, r1, r2, r3, r4⟩, s0, s1, s2, s3, s4⟩ := ap_res H1.out.2)
    | (go_at_call 28; refine (HVG.out _).mono ?_; rintro e w3 ⟨rfl, hb⟩; replace H1 := Lib.hid (And.intro (H1.out.1.below hb) (ap_below H1.out.2 hb)); clear a0 a1 t0 t1 t2 t3 g0' g1' l0 l1 l2 l3 l4 l5 r0 r1 r2 r3 r4 s0 s1 s2 s3 s4; clear hb; obtain ⟨a0, a1, ⟨t0, t1, t2, t3⟩, ⟨g0', g1'⟩, l0, l1, l2, l3, l4, l5⟩ := ap_cells H1.out.2; obtain ⟨⟨r0, r1, r2, r3, r4⟩, s0, s1, s2, s3, s4⟩ := ap_res H1.out.2)
    | (go_at_call 29; refine (HNW.out _).mono ?_; rintro e w4 ⟨rfl, hb⟩; replace H1 := Lib.hid (And.intro (H1.out.1.below hb) (ap_below H1.out.2 hb)); clear a0 a1 t0 t1 t2 t3 g0' g1' l0 l1 l2 l3 l4 l5 r0 r1 r2 r3 r4 s0 s1 s2 s3 s4; clear hb; obtain ⟨a0, a1, ⟨t0, t1, t2, t3⟩, ⟨g0', g1'⟩, l0, l1, l2, l3, l4, l5⟩ := ap_cells H1.out.2; obtain ⟨⟨r0, r1, r2, r3, r4⟩, s0, s1, s2, s3, s4⟩ := ap_res H1.out.2)
    | fail)
  replace H1 := Lib.hid (ap_store H1.out.1 H1.out.2 (.int .i64 0) (.int .i64 0) (.int .i64 0) (.int .i64 0) 16)
  refine bodyPost_ret (v := .tuple #[.agg zTail, .int .i64 16]) (ap_end H1.out.2 rfl rfl rfl) rfl ?_
  exact ⟨rfl, H1.out.1, ap_rest H1.out.2⟩
end Go.Proofs.Ytbegomjbakidmaa
