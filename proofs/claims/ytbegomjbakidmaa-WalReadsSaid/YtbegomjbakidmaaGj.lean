/- wal.next, in one; wal.Scan. -/
import Derived.Test.YtbegomjbakidmaaGi
namespace Go.Proofs.Ytbegomjbakidmaa
open Go.RowKit Go.Sl Go.ChangeMaps

theorem wnext_any (p : Nat) (S : ShelfM) (F : HProp) (d : Int) (N : Nat) (f : Nat → List UInt8) (hN : (N : Int) = logN S.cfg) (hd : 0 ≤ d ∧ d < 64) (hr : ReadsL S d N f) (hl : ∀ j, j < N → (f j).length = 64) (t : TailM) (htn : 0 ≤ t.next ∧ t.next ≤ 2147483647) (hnu : 0 ≤ t.number ∧ t.number ≤ 4294967295) (w : World) (hS : Sat w (shelfAt SH p S * F)) :
    Calls Try.prog 27 #[.pointer (some ⟨p, 0, none⟩), .int .i64 d, .agg (tailA t)] w (NextOut p S F t (nextL f N d t) w) := by
  obtain ⟨tn, nu, ⟨ge, gc⟩⟩ := t
  simp only at htn hnu
  obtain ⟨tn, rfl⟩ := Int.eq_ofNat_of_zero_le htn.1
  have hnx : nextL f N d ⟨(tn : Int), nu, ⟨ge, gc⟩⟩ = match readL f N d tn with
    | none => none
    | some x => if firstOK ⟨(tn : Int), nu, ⟨ge, gc⟩⟩ x then (restL f N d tn x 1 ((sizeM x.left).toNat - 1)).map fun r => (x.bytes ++ r, ⟨(tn : Int) + sizeM x.left, x.number, x.gen⟩) else none := rfl
  rw [hnx]
  cases h0 : readL f N d tn with
  | none => exact wnext_none p S F d N f hN hd hr hl tn nu ge gc (by omega) hnu h0 w hS
  | some x =>
    obtain ⟨⟨xg, xh⟩, ⟨xe, xf⟩, xn, xl, xb⟩ := x
    simp only
    by_cases hc : firstOK ⟨(tn : Int), nu, ⟨ge, gc⟩⟩ ⟨⟨xg, xh⟩, ⟨xe, xf⟩, xn, xl, xb⟩
    · rw [if_pos hc]
      obtain ⟨c1, c2, c3, c4⟩ := hc
      simp only [GenM.mk.injEq] at c1 c2 c3 c4
      exact wnext_loop p S F d N f hN hd hr hl tn nu ge gc (by omega) hnu xg xh xe xf xn xl xb h0 c1 c2 c3.1 c3.2 c4 w hS
    · rw [if_neg hc]
      refine wnext_fail p S F d N f hN hd hr hl tn nu ge gc (by omega) hnu xg xh xe xf xn xl xb h0 ?_ w hS
      rw [Bool.eq_false_iff]
      intro hh
      simp only [Bool.and_eq_true, beq_iff_eq, decide_eq_true_eq] at hh
      obtain ⟨⟨⟨⟨h1, h2⟩, h3⟩, h4⟩, h5⟩ := hh
      exact hc ⟨h1, h2, by simp only [h3, h4], h5⟩
theorem next_bound {f : Nat → List UInt8} {N : Nat} {d : Int} {t t1 : TailM} {r : List UInt8} (hN : N ≤ 65536) (h : nextL f N d t = some (r, t1)) (h0 : 0 ≤ t.next) : (0 ≤ t1.next ∧ t1.next ≤ 2147483647) ∧ (0 ≤ t1.number ∧ t1.number ≤ 4294967295) ∧ r.length ≤ 4108 := by
  unfold nextL at h
  cases hx : readL f N d t.next.toNat with
  | none => rw [hx] at h; cases h
  | some x =>
    rw [hx] at h
    simp only at h
    by_cases hc : firstOK t x
    · rw [if_pos hc] at h
      cases hr : restL f N d t.next.toNat x 1 ((sizeM x.left).toNat - 1) with
      | none => rw [hr] at h; cases h
      | some y =>
        rw [hr] at h
        simp only [Option.map_some, Option.some.injEq, Prod.mk.injEq] at h
        have hp := readL_part hx
        have hlt : t.next.toNat < N := by
          unfold readL at hx
          split at hx
          · cases hx
          · omega
        obtain ⟨_, _, _, hle⟩ := hc
        have hs1 := size_pos hp.left
        have hs : sizeM x.left ≤ 158 := by unfold sizeM; have := hp.left; rw [if_neg (by omega)]; omega
        have hlen : ∀ (k i : Nat) (z : List UInt8), restL f N d t.next.toNat x i k = some z → z.length ≤ 26 * k := by
          intro k
          induction k with
          | zero => intro i z hz; unfold restL at hz; cases hz; simp
          | succ k ih =>
            intro i z hz
            rw [restL_succ] at hz
            cases hq : readL f N d (t.next.toNat + i) with
            | none => rw [hq] at hz; cases hz
            | some q =>
              rw [hq] at hz
              simp only at hz
              split at hz
              · cases hz
              · cases hy : restL f N d t.next.toNat x (i + 1) k with
                | none => rw [hy] at hz; cases hz
                | some u =>
                  rw [hy] at hz
                  simp only [Option.map_some, Option.some.injEq] at hz
                  rw [← hz, List.length_append]
                  have := ih _ _ hy
                  have := (readL_part hq).bytes
                  omega
        have := hlen _ _ _ hr
        have := hp.bytes
        rw [← h.2, ← h.1]
        refine ⟨⟨by simp only; omega, by simp only; omega⟩, hp.num, by rw [List.length_append]; omega⟩
    · rw [if_neg hc] at h; cases h

/-! ### Scan -/
def strsL (l : List (List UInt8)) : List Value := l.map fun s => .string (strB s)
def ownS (v : Value) (l : List (List UInt8)) : HProp := ownAt TString 1 v l.length (strsL l)
def slen (v : Value) : Nat := match v with | .slice _ n _ => n | _ => 0
theorem infoStr3 : (Try.prog.info? TString).map (fun i => (i.zero, i.size, i.bytes)) = some (some (.string (strB [])), 1, 16) := by kernel_rfl
theorem scan_perm2 (N T G R O B C Z : HProp) : N * (T * (G * (R * ((O * (B * C)) * Z)))) = T * (G * (R * (O * (N * (B * (C * Z)))))) := by ac_rfl
theorem scan_perm3 (O B R : HProp) : O * B * R = B * (O * R) := by ac_rfl
theorem scan_perm (T O B Z R : HProp) : T * ((O * (B * Z)) * R) = Z * (T * (O * B * R)) := by ac_rfl
structure ScSt (w : World) (E : HProp) (f : Nat → List UInt8) (N : Nat) (d : Int) (l : List (List UInt8)) (t' : TailM) (v9 v10 : Value) (wr : World) : Prop where
  st : ∃ (acc rest : List (List UInt8)) (tc : TailM) (T : Nat), v10 = .pointer (some ⟨T, 0, none⟩) ∧ l = acc ++ rest ∧ ChainL f N d tc rest t' ∧ (0 ≤ tc.next ∧ tc.next ≤ 2147483647) ∧ (0 ≤ tc.number ∧ tc.number ≤ 4294967295) ∧ slen v9 = acc.length ∧
    Same w wr ∧ Sat wr (ownS v9 acc * (pts T (.cells (tailA tc) TTail (0, 0)) * E))
theorem tail_cells4 {w : World} {B : Nat} {t : TailM} {X : HProp} (h : Sat w (pts B (.cells (tailA t) TTail (0, 0)) * X)) : w.cell? ⟨B, 0, none⟩ = some (.int .i64 t.next) ∧ w.cell? ⟨B, 1, none⟩ = some (.int .i64 t.number) ∧ w.cell? ⟨B, 2, none⟩ = some (.int .i64 t.gen.epoch) ∧ w.cell? ⟨B, 3, none⟩ = some (.int .i64 t.gen.count) ∧ B < w.heap.size := by
  have h1 := cells_at h.block
  exact ⟨h1 0, h1 1, h1 2, h1 3, h.lt⟩
set_option maxHeartbeats 2000000 in
set_option maxRecDepth 20000 in
theorem scan_any (p : Nat) (S : ShelfM) (F : HProp) (d : Int) (N : Nat) (f : Nat → List UInt8) (hN : (N : Int) = logN S.cfg) (hd : 0 ≤ d ∧ d < S.cfg.disks) (hr : ReadsL S d N f) (hl : ∀ j, j < N → (f j).length = 64) (t : TailM) (ht : tailV t = true)
    (l : List (List UInt8)) (t' : TailM) (hsc : ScanL f N d t l t') (hll : l.length ≤ 100000) (w : World) (hS : Sat w (shelfAt SH p S * F)) :
    Calls Try.prog 12 #[.pointer (some ⟨p, 0, none⟩), .int .i64 d, .agg (tailA t)] w fun e w' => ∃ v, e = .returned (.tuple #[v, .agg (tailA t'), .int .i64 0]) ∧ Hid (Same w w' ∧ Sat w' (ownS v l * (shelfAt SH p S * F))) := by
  have hwf := (shelfAt_wf hS).cfg
  have hN2 : N ≤ 65536 := by have := hwf.log; unfold logN at hN; omega
  have hd64 : 0 ≤ d ∧ d < 64 := ⟨hd.1, by have := hwf.disks; omega⟩
  obtain ⟨hch, hend⟩ := hsc
  obtain ⟨b1, b2, b3, b4, _⟩ := tailV_iff.1 ht
  have HV := Lib.hid (show ∀ W X Y, Sat W (X * (Y * (shelfAt SH p S * F))) → Calls Try.prog 26 #[.pointer (some ⟨p, 0, none⟩), .int .i64 d, .agg (tailA t)] W fun e w' => e = .returned (.bool true) ∧ Below W.heap.size W w' from fun W X Y h => by
    have h1 := wvalid_any p S (X * (Y * F)) d t W (h.perm (by ac_rfl))
    rw [ht, decide_eq_true hd.1, decide_eq_true hd.2] at h1
    exact h1)
  have HN := Lib.hid (show ∀ (tc : TailM) W Y Z, (0 ≤ tc.next ∧ tc.next ≤ 2147483647) → (0 ≤ tc.number ∧ tc.number ≤ 4294967295) → Sat W (Y * (Z * (shelfAt SH p S * F))) → Calls Try.prog 27 #[.pointer (some ⟨p, 0, none⟩), .int .i64 d, .agg (tailA tc)] W fun e w' => e = .returned (.tuple #[.string (strB (nextO (nextL f N d tc) tc).1), .agg (tailA (nextO (nextL f N d tc) tc).2), .bool (nextL f N d tc).isSome, .int .i64 0]) ∧ Hid (Same W w' ∧ Sat w' (Y * (Z * (shelfAt SH p S * F)))) from fun tc W Y Z h1 h2 h => by
    have h3 := wnext_any p S (Y * (Z * F)) d N f hN hd64 hr hl tc h1 h2 W (h.perm (by ac_rfl))
    refine h3.mono fun e w' h' => ?_
    unfold NextOut at h'
    exact ⟨h'.1, h'.2.out.1, h'.2.out.2.perm (by ac_rfl)⟩)
  have H1 := Lib.hid (And.intro (((Same.refl w).alloc (.cells (tailA t) TTail)).alloc (.cells zTail TTail)) (((hS.alloc (.cells (tailA t) TTail)).alloc (.cells zTail TTail)).perm (show _ = pts w.heap.size (.cells (tailA t) TTail (0, 0)) * (pts (w.alloc (.cells (tailA t) TTail)).heap.size (.cells zTail TTail (0, 0)) * (shelfAt SH p S * F)) from by ac_rfl)))
  rw [World.size_alloc] at H1
  have HC := Lib.hid hch
  have HE := Lib.hid hend
  clear hS hr hl hN hd hd64 hwf ht hch hend
  go_enter Try.func12, Try.ntmps12
  go_upto_region 1 with ((with_reducible (refine wpList_alloc_zero ?_ TTail ?_ _ (zeroTail _) ?_)); rfl; rfl)
  generalize (w.alloc (.cells (tailA t) TTail)).alloc (.cells zTail TTail) = w1 at H1 ⊢
  generalize w.heap.size = B at H1 ⊢
  obtain ⟨t0, t1, t2, t3, lt⟩ := tail_cells4 H1.out.2
  go_upto_region 4 with (go_at_call 26; refine (HV.out _ _ _ H1.out.2).mono ?_; rintro e w2 ⟨rfl, hb⟩; replace H1 := Lib.hid (And.intro (H1.out.1.below hb) (H1.out.2.below hb)); clear t0 t1 t2 t3 lt hb; obtain ⟨t0, t1, t2, t3, lt⟩ := tail_cells4 H1.out.2)
  go_wp2_with (fail)
  clear t0 t1 t2 t3 lt
  obtain ⟨E, hE⟩ : ∃ E, E = pts B (.cells (tailA t) TTail (0, 0)) * (pts (B + 1) (.cells zTail TTail (0, 0)) * (shelfAt SH p S * F)) := ⟨_, rfl⟩
  have hst : ScSt w E f N d l t' (.slice none 0 0) (.pointer (some ⟨w2.heap.size, 0, none⟩)) (w2.alloc (.cells (tailA t) TTail)) :=
    ⟨⟨[], l, t, w2.heap.size, rfl, rfl, HC.out, ⟨b1, b3⟩, ⟨b2, by omega⟩, rfl, H1.out.1.alloc _, by
      refine ownAt_nil.2 ?_
      rw [hE]
      exact H1.out.2.alloc _⟩⟩
  have HST := Lib.hid hst
  have HEE := Lib.hid hE
  clear hst H1 hE b1 b2 b3 b4 HC
  generalize w2.alloc (.cells (tailA t) TTail) = w3 at HST ⊢
  generalize w2.heap.size = T0 at HST ⊢
  go_loopw [9, 10] (fun v9 v10 wr => ScSt w E f N d l t' v9 v10 wr) (fun v9 _ _ => l.length + 1 - slen v9)
  case atStart => exact HST.out
  case round =>
    obtain ⟨acc, rest, tc, T, rfl, hacc, hch, h1, h2, hsl, hsm, hs⟩ := hrel.st
    have H1 := Lib.hid (And.intro hsm (show Sat wr (pts T (.cells (tailA tc) TTail (0, 0)) * ((ownS u9 acc * (pts B (.cells (tailA t) TTail (0, 0)) * pts (B + 1) (.cells zTail TTail (0, 0)))) * (shelfAt SH p S * F))) from hs.perm (by rw [HEE.out]; ac_rfl)))
    have HSL := Lib.hid hsl
    obtain ⟨ao9, cp9, rfl⟩ := ownAt_slice hs
    have hnxt := HN.out tc
    obtain ⟨t0, t1', t2, t3, lt⟩ := tail_cells4 H1.out.2
    clear hrel HST hsm hs hsl
    cases hch with
    | nil =>
      have he := HE.out
      have hn2 := fun W Y Z (h : Sat W (Y * (Z * (shelfAt SH p S * F)))) => hnxt W Y Z h1 h2 h
      rw [he] at hn2
      replace hn2 := Lib.hid hn2
      have HA := Lib.hid hacc
      clear he hnxt hacc h1 h2
      go_wp2_with (go_at_call 27; refine (hn2.out _ _ _ H1.out.2).mono ?_; rintro e w4 ⟨rfl, h4⟩; replace H1 := Lib.hid (And.intro (H1.out.1.trans h4.out.1) h4.out.2); clear t0 t1' t2 t3 lt h4; obtain ⟨t0, t1', t2, t3, lt⟩ := tail_cells4 H1.out.2)
      clear t0 t1' t2 t3 lt
      replace H1 := Lib.hid (And.intro (H1.out.1.alloc (.cells (tailA t') TTail)).drew (H1.out.2.allocKeep (.cells (tailA t') TTail)).drew)
      have hcells := Lib.hid (show ∀ (W : World) (X : HProp), Sat W (pts T (.cells (tailA t') TTail (0, 0)) * X) → W.cell? ⟨T, 0, none⟩ = some (.int .i64 t'.next) ∧ W.cell? ⟨T, 1, none⟩ = some (.int .i64 t'.number) ∧ W.cell? ⟨T, 2, none⟩ = some (.int .i64 t'.gen.epoch) ∧ W.cell? ⟨T, 3, none⟩ = some (.int .i64 t'.gen.count) from fun W X h => by have h1 := cells_at h.block; exact ⟨h1 0, h1 1, h1 2, h1 3⟩)
      have hS0 := hcells.out _ _ H1.out.2
      refine reg_begin (fun w' => w'.cell? ⟨T, 0, none⟩ = some (.int .i64 t'.next) ∧ w'.cell? ⟨T, 1, none⟩ = some (.int .i64 t'.number) ∧ w'.cell? ⟨T, 2, none⟩ = some (.int .i64 t'.gen.epoch) ∧ w'.cell? ⟨T, 3, none⟩ = some (.int .i64 t'.gen.count)) (by kernel_rfl) ?_
      (apply reg_take 0 rfl rfl (by decide +kernel) rfl); (rintro w' ⟨h1, h2, h3, h4⟩; go_simp; rfl); exact hS0; simp only [List.setIfInBounds_toArray, List.set_cons_succ, List.set_cons_zero]
      (apply reg_take 1 rfl rfl (by decide +kernel) rfl); (rintro w' ⟨h1, h2, h3, h4⟩; go_simp; rfl); exact hS0; simp only [List.setIfInBounds_toArray, List.set_cons_succ, List.set_cons_zero]
      (apply reg_take 2 rfl rfl (by decide +kernel) rfl); (rintro w' ⟨h1, h2, h3, h4⟩; go_simp; rfl); exact hS0; simp only [List.setIfInBounds_toArray, List.set_cons_succ, List.set_cons_zero]
      refine reg_store_blk 3 (T := TTail) (old := zTail) (new := tailA t') rfl rfl (by decide +kernel) rfl rfl rfl rfl (H1.out.2.perm (scan_perm _ _ _ _ _)) (infoTail rfl) rfl (by simp [Value.oneCell']) ?_
      intro w9 h9
      replace H1 := Lib.hid (And.intro (H1.out.1.trans h9.out.1) h9.out.2)
      replace hS0 := hcells.out _ _ (h9.out.2.perm (star_left_comm _ _ _))
      refine ⟨hS0, ?_⟩
      clear h9
      (apply reg_take 4 rfl rfl (by decide +kernel) rfl); (rintro w' ⟨h1, h2, h3, h4⟩; go_simp; rfl); exact hS0; simp only [List.setIfInBounds_toArray, List.set_cons_succ, List.set_cons_zero]
      refine reg_done (by decide +kernel) ?_
      clear hS0
      go_wp2
      refine bodyPost_ret (v := .tuple #[.slice ao9 acc.length cp9, .agg (tailA t'), .int .i64 0]) (results3 Try.results12 (.tmp rfl) (ResIs.row rfl H1.out.2.block Try.underlying31 rfl (infoTail rfl)) (.tmp rfl)) rfl ?_
      have e : l = acc := by rw [HA.out, List.append_nil]
      rw [e]
      exact ⟨_, rfl, H1.out.1, (H1.out.2.right.right.perm (scan_perm3 _ _ _)).right⟩
    | cons hstep hrest =>
      rename_i t1 r rest
      obtain ⟨n1, n2, n3⟩ := next_bound hN2 hstep h1.1
      have hn2 := fun W Y Z (h : Sat W (Y * (Z * (shelfAt SH p S * F)))) => hnxt W Y Z h1 h2 h
      rw [hstep] at hn2
      replace hn2 := Lib.hid (show ∀ W Y Z, Sat W (Y * (Z * (shelfAt SH p S * F))) → Calls Try.prog 27 #[.pointer (some ⟨p, 0, none⟩), .int .i64 d, .agg (tailA tc)] W fun e w' => e = .returned (.tuple #[.string (strB r), .agg (tailA t1), .bool true, .int .i64 0]) ∧ Hid (Same W w' ∧ Sat w' (Y * (Z * (shelfAt SH p S * F)))) from hn2)
      have HA := Lib.hid hacc
      have HX := Lib.hid (And.intro n1 (And.intro n2 (And.intro n3 hrest)))
      clear hnxt hacc h1 h2 n1 n2 n3 hrest hstep
      go_upto_region 6 with (go_at_call 27; refine (hn2.out _ _ _ H1.out.2).mono ?_; rintro e w4 ⟨rfl, h4⟩; replace H1 := Lib.hid (And.intro (H1.out.1.trans h4.out.1) h4.out.2); clear t0 t1' t2 t3 lt h4; obtain ⟨t0, t1', t2, t3, lt⟩ := tail_cells4 H1.out.2)
      clear t0 t1' t2 t3 lt
      replace H1 := Lib.hid (And.intro (H1.out.1.alloc (.cells (tailA t1) TTail)).drew (H1.out.2.alloc (.cells (tailA t1) TTail)).drew)
      go_wp2_with (fail)
      rw [show (w4.alloc (.cells (tailA t1) TTail)).drew = (w4.alloc (.cells (tailA t1) TTail)).drew from rfl] at H1
      generalize hG : w4.heap.size = G at H1 ⊢
      have hcells := Lib.hid (show ∀ (W : World) (X : HProp), Sat W (pts G (.cells (tailA t1) TTail (0, 0)) * X) → W.cell? ⟨G, 0, none⟩ = some (.int .i64 t1.next) ∧ W.cell? ⟨G, 1, none⟩ = some (.int .i64 t1.number) ∧ W.cell? ⟨G, 2, none⟩ = some (.int .i64 t1.gen.epoch) ∧ W.cell? ⟨G, 3, none⟩ = some (.int .i64 t1.gen.count) from fun W X h => by have h1 := cells_at h.block; exact ⟨h1 0, h1 1, h1 2, h1 3⟩)
      have hS0 := hcells.out _ _ H1.out.2
      clear hG
      refine reg_begin (fun w' => w'.cell? ⟨G, 0, none⟩ = some (.int .i64 t1.next) ∧ w'.cell? ⟨G, 1, none⟩ = some (.int .i64 t1.number) ∧ w'.cell? ⟨G, 2, none⟩ = some (.int .i64 t1.gen.epoch) ∧ w'.cell? ⟨G, 3, none⟩ = some (.int .i64 t1.gen.count)) (by kernel_rfl) ?_
      (apply reg_take 0 rfl rfl (by decide +kernel) rfl); (rintro w' ⟨h1, h2, h3, h4⟩; go_simp; rfl); exact hS0; simp only [List.setIfInBounds_toArray, List.set_cons_succ, List.set_cons_zero]
      (apply reg_take 1 rfl rfl (by decide +kernel) rfl); (rintro w' ⟨h1, h2, h3, h4⟩; go_simp; rfl); exact hS0; simp only [List.setIfInBounds_toArray, List.set_cons_succ, List.set_cons_zero]
      (apply reg_take 4 rfl rfl (by decide +kernel) rfl); (rintro w' ⟨h1, h2, h3, h4⟩; go_simp; rfl); exact hS0; simp only [List.setIfInBounds_toArray, List.set_cons_succ, List.set_cons_zero]
      generalize (w4.alloc (.cells (tailA t1) TTail)).drew = w5 at H1 hS0 ⊢
      have hA := H1.out.2.alloc (.cells #[.string (strB r)] TString)
      have hS1 := hcells.out _ _ (hA.perm (star_left_comm _ _ _))
      refine reg_run 2 (.slice (some ⟨w5.heap.size, 0, none⟩) 1 1) (w5.alloc (.cells #[.string (strB r)] TString)) rfl rfl (by decide +kernel) rfl (by go_simp) (hS1) ?_; simp only [List.setIfInBounds_toArray, List.set_cons_succ, List.set_cons_zero]
      have hA2 := hA.perm (show _ = ownAt TString 1 (.slice ao9 acc.length cp9) acc.length (strsL acc) * (pts w5.heap.size (.cells #[.string (strB r)] TString (0, 0)) * (pts G (.cells (tailA t1) TTail (0, 0)) * (pts T (.cells (tailA tc) TTail (0, 0)) * ((pts B (.cells (tailA t) TTail (0, 0)) * pts (B + 1) (.cells zTail TTail (0, 0))) * (shelfAt SH p S * F))))) from by unfold ownS; ac_rfl)
      have hal : acc.length + 1 ≤ 100000 := by have e := congrArg List.length HA.out; simp at e; omega
      obtain ⟨ti, hti, hz0, hts, hz2⟩ := info_parts infoStr3
      obtain ⟨v', w6, hrn, hsm6, hs6⟩ := run_append_ownAt (P := Try.prog) 22 22 TString ti _ Try.underlying22 hti hz0 (by rw [hts]; rfl) _ acc.length (strsL acc) (by rw [hts]; exact hA2) ⟨w5.heap.size, 0, none⟩ 1 1 [.string (strB r)] (by rw [hts]; rfl)
        (by intro j u hu; rw [Addr.add_mid, cells_at hA2.right.block, Nat.zero_add]; simpa using hu) (by simp [Value.oneCell']) (by unfold maxLen; omega) (by rw [hz2]; omega)
      rw [hts] at hs6
      have hs7 := hs6.perm (show _ = pts G (.cells (tailA t1) TTail (0, 0)) * (pts T (.cells (tailA tc) TTail (0, 0)) * (pts w5.heap.size (.cells #[.string (strB r)] TString (0, 0)) * ((ownAt TString 1 v' (acc.length + 1) (strsL acc ++ [.string (strB r)]) * (pts B (.cells (tailA t) TTail (0, 0)) * pts (B + 1) (.cells zTail TTail (0, 0)))) * (shelfAt SH p S * F)))) from by ac_rfl)
      have hS2 := hcells.out _ _ hs7
      replace H1 := Lib.hid (And.intro ((H1.out.1.alloc (.cells #[.string (strB r)] TString)).trans hsm6) hs7)
      have HRN := Lib.hid hrn
      clear hs7 hA2 hA hsm6 hS0 hti hz0 hts hz2 hrn
      refine reg_run 3 (v') (w6) rfl rfl (by decide +kernel) rfl (exec_append rfl rfl rfl HRN.out) (hS2) ?_; simp only [List.setIfInBounds_toArray, List.set_cons_succ, List.set_cons_zero]
      (apply reg_take 5 rfl rfl (by decide +kernel) rfl); (rintro w' ⟨h1, h2, h3, h4⟩; go_simp; rfl); exact hS2; simp only [List.setIfInBounds_toArray, List.set_cons_succ, List.set_cons_zero]
      refine reg_store_blk 6 (T := TTail) (old := tailA tc) (new := tailA t1) rfl rfl (by decide +kernel) rfl rfl rfl rfl (H1.out.2.perm (star_left_comm _ _ _)) (infoTail rfl) rfl (by simp [Value.oneCell']) ?_
      intro w9 h9
      replace H1 := Lib.hid (And.intro (H1.out.1.trans h9.out.1) h9.out.2)
      have hS3 := hcells.out _ _ (h9.out.2.perm (star_left_comm _ _ _))
      refine ⟨hS3, ?_⟩
      refine reg_done (by decide +kernel) ?_
      clear h9 hS3 hS1 hS2
      obtain ⟨ao', cp', rfl⟩ := ownAt_slice hs6
      clear hs6
      obtain ⟨t0, t1', t2, t3, lt⟩ := tail_cells4 H1.out.2
      go_wp2
      replace H1 := Lib.hid (And.intro (H1.out.1.alloc (.cells (tailA t1) TTail)) (H1.out.2.alloc (.cells (tailA t1) TTail)))
      obtain ⟨n1, n2, _, hrest⟩ := HX.out
      refine ⟨⟨⟨acc ++ [r], rest, t1, w9.heap.size, rfl, by rw [HA.out]; simp, hrest, n1, n2, by simp [slen], H1.out.1, ?_⟩⟩, ?_⟩
      · rw [HEE.out]
        unfold ownS
        rw [List.length_append, List.length_singleton, show strsL (acc ++ [r]) = strsL acc ++ [.string (strB r)] by simp [strsL]]
        exact (H1.out.2.perm (scan_perm2 _ _ _ _ _ _ _ _)).right.right.right
      · have e := congrArg List.length HA.out
        simp at e
        simp only [slen]
        omega
end Go.Proofs.Ytbegomjbakidmaa
