import Derived.Test.YtednjhlkhecihaaGreatDoorEg
import Derived.Test.YtednjhlkhecihaaGreatDoorUd
import Derived.Test.YtednjhlkhecihaaGreatDoorUe
/- ref27.get, Space.Get, Space.Look; law27.ints. -/
namespace Go.Vol
open SpaceM
theorem mem_itemsF {m : MapM} {first b : Nat} {c : Int} : ∀ {n : Nat}, (first + b, c) ∈ itemsF n first m ↔ b < n ∧ m b = some c
  | 0 => by simp [itemsF]
  | n + 1 => by
    rw [itemsF_succ, List.mem_append, mem_itemsF]
    cases hm : m n with
    | none =>
      simp only [Option.map_none, Option.toList_none, List.not_mem_nil, or_false]
      constructor
      · rintro ⟨h1, h2⟩; exact ⟨by omega, h2⟩
      · rintro ⟨h1, h2⟩
        refine ⟨?_, h2⟩
        rcases Nat.lt_or_ge b n with h | h
        · exact h
        · obtain rfl : b = n := by omega
          rw [hm] at h2; cases h2
    | some d =>
      simp
      constructor
      · rintro (⟨h1, h2⟩ | ⟨rfl, rfl⟩)
        · exact ⟨by omega, h2⟩
        · exact ⟨by omega, hm⟩
      · rintro ⟨h1, h2⟩
        rcases Nat.lt_or_ge b n with h | h
        · exact .inl ⟨h, h2⟩
        · obtain rfl : b = n := by omega
          rw [hm] at h2; cases h2
          exact .inr ⟨rfl, rfl⟩
theorem mem_items {m : MapM} {b : Nat} {c : Int} : (b, c) ∈ items m ↔ b < 4096 ∧ m b = some c := by
  have := mem_itemsF (m := m) (first := 0) (b := b) (c := c) (n := 4096)
  rw [Nat.zero_add] at this
  exact this
/-- What get answers of a list of parts. -/
def getL (L : List PartM) (id b : Int) : Int × Int := match L[atN L id]? with | none => (0, 12) | some p => getM p.m b
theorem getL_vols (S : SpaceM) (v b : Int) : getL S.vols v b = S.get v b := rfl
theorem getL_snaps (S : SpaceM) (v b : Int) : getL S.snaps v b = S.look v b := rfl
theorem getM_hit {m : MapM} {b : Nat} {c : Int} (h : (b, c) ∈ items m) : getM m (b : Int) = (c, 0) := by
  obtain ⟨h1, h2⟩ := mem_items.1 h
  unfold getM blkB
  rw [if_neg (by simp; omega), Int.toNat_natCast, h2]
theorem getM_miss {m : MapM} {b : Int} (hb : blkB b = true) (h : ∀ y ∈ items m, (y.1 : Int) ≠ b) : getM m b = (0, 12) := by
  obtain ⟨h0, h1⟩ := blkB_iff.1 hb
  obtain ⟨n, rfl⟩ := Int.eq_ofNat_of_zero_le h0
  unfold getM
  rw [hb, if_neg (by decide), Int.toNat_natCast]
  cases hm : m n with
  | none => rfl
  | some c => exact absurd rfl (h (n, c) (mem_items.2 ⟨by omega, hm⟩))
/-- The answers differ where the maps do. -/
theorem getM_ne {m m' : MapM} {b : Nat} (hb : b < 4096) : (getM m (b : Int) ≠ getM m' (b : Int)) ↔ m b ≠ m' b := by
  have hx : blkB (b : Int) = true := blkB_iff.2 ⟨by omega, by omega⟩
  unfold getM
  rw [hx]
  simp only [Bool.true_eq_false, if_false, Int.toNat_natCast]
  cases m b <;> cases m' b <;> simp
end Go.Vol
namespace Go.Proofs.YtednjhlkhecihaaGreatDoor
open Go.RowKit Go.Vol Go.Sl

structure GtSt (w : World) (its : List (Nat × Int)) (b : Int) (i : Value) (wr : World) : Prop where
  st : ∃ k : Nat, k ≤ its.length ∧ i = .int .i64 (k : Int) ∧ (∀ y ∈ its.take k, (y.1 : Int) ≠ b) ∧ Below w.heap.size w wr

set_option maxRecDepth 20000 in
set_option maxHeartbeats 2000000 in
theorem rget_any {ok : Nat → Prop} (v : Value) (L : List PartM) (id b : Int) (w : World) (hv : RefL ok w v L) (hn : L.length ≤ 1000) :
    Calls Tryz.prog 48 #[v, .int .i64 id, .int .i64 b] w fun e w' => e = .returned (.tuple #[.int .i64 (getL L id b).1, .int .i64 (getL L id b).2]) ∧ Below w.heap.size w w' := by
  obtain ⟨va, vc, rfl, hvc, hvm⟩ := hv.slice
  have HAT := Lib.hid (rat_any (.slice va L.length vc) L id w hv)
  have HBK := Lib.hid (fun W => rblk_b b W)
  rcases atP_cases L id with ⟨hn', hi⟩ | ⟨p, hp, hi, hlt, hid⟩
  · have HM := Lib.hid (show getL L id b = (0, 12) by unfold getL; rw [hn'])
    rw [hi] at HAT
    clear hv hvc hvm hn' hi
    go_enter Tryz.func48, Tryz.ntmps48
    go_wp2_with (go_at_call 51; refine HAT.out.mono ?_; rintro e W2 ⟨rfl, h2⟩)
    go_ret2
    exact ⟨by rw [HM.out]; rfl, h2⟩
  · have hM : getL L id b = SpaceM.getM p.m b := by unfold getL; rw [hp]
    rw [hi] at HAT
    obtain ⟨g, pa, pc, rfl, hg, e0, e1, e2, e3, hrow⟩ := part_at hv hp
    have hil : (items p.m).length ≤ 4096 := by rw [items_len]; exact cnt_le p.m
    have HE := Lib.hid (And.intro hg (And.intro e3 (And.intro hrow (And.intro hM hil))))
    generalize hk : atN L id = k at *
    have hneg : decide ((k : Int) < 0) = false := decide_eq_false (by omega)
    have hk63 : (k : Int) ≤ 1000 := by omega
    clear hv hvc hvm hp hi hid hk e0 e1 e2 e3 hrow hg hM hil
    cases hbb : blkB b with
    | false =>
      have HM := Lib.hid (show getL L id b = (0, 1) by rw [HE.out.2.2.2.1]; unfold SpaceM.getM; rw [if_pos hbb])
      rw [hbb] at HBK
      clear hbb
      go_enter Tryz.func48, Tryz.ntmps48
      go_wp2_with (first
        | (go_at_call 51; refine HAT.out.mono ?_; rintro e W2 ⟨rfl, h2⟩)
        | (go_at_call 76; refine (HBK.out _).mono ?_; rintro e W3 ⟨rfl, h3⟩))
      go_ret2
      exact ⟨by rw [HM.out]; rfl, h2.trans (h3.mono h2.size)⟩
    | true =>
      have HBB := Lib.hid hbb
      rw [hbb] at HBK
      clear hbb
      go_enter Tryz.func48, Tryz.ntmps48
      go_wp2_with (first
        | (go_at_call 51; refine HAT.out.mono ?_; rintro e W2 ⟨rfl, h2⟩)
        | (go_at_call 76; refine (HBK.out _).mono ?_; rintro e W3 ⟨rfl, h3⟩))
      have HB3 := Lib.hid (h2.trans (h3.mono h2.size))
      clear h2 h3
      go_loopw [10] (fun i wr => GtSt w (items p.m) b i wr) (fun i _ => (items p.m).length - (intOf i).toNat)
      case atStart => exact ⟨⟨0, Nat.zero_le _, rfl, fun y hy => absurd hy (by simp), HB3.out⟩⟩
      case round =>
        clear HB3
        obtain ⟨j, hj, rfl, hne, hbw⟩ := hrel.st
        clear hrel
        have e3 := (hbw.cell (p := ⟨g, k * 4 + 3, none⟩) HE.out.1).trans HE.out.2.1
        have HBW := Lib.hid hbw
        by_cases hlj : j < (items p.m).length
        · have hljd : decide ((j : Int) < ((items p.m).length : Int)) = true := decide_eq_true (by omega)
          have hji : (j : Int) ≤ 4096 := by have := HE.out.2.2.2.2; omega
          obtain ⟨x, hx⟩ : ∃ x, (items p.m)[j]? = some x := ⟨_, List.getElem?_eq_getElem hlj⟩
          obtain ⟨pg, rfl, hpg, r0, r1⟩ := ref_cells HE.out.2.2.1.rows hx
          have r0 := (hbw.cell (p := ⟨pg, j * 2, none⟩) hpg).trans r0
          have r1 := (hbw.cell (p := ⟨pg, j * 2 + 1, none⟩) hpg).trans r1
          have hmem := List.mem_of_getElem? hx
          obtain ⟨xb, xc⟩ := x
          simp only at r0 r1
          have hbn : (items p.m).length ≤ 4096 := HE.out.2.2.2.2
          by_cases hxb : (xb : Int) = b
          · have HM := Lib.hid (show getL L id b = (xc, 0) by rw [HE.out.2.2.2.1, ← hxb]; exact getM_hit hmem)
            have hxd : ((xb : Int) == b) = true := by simpa using hxb
            clear hxb hmem hx hne hbw hpg
            go_wp2
            go_ret2
            exact ⟨by rw [HM.out]; rfl, HBW.out⟩
          · have hxd : ((xb : Int) == b) = false := by simpa using hxb
            have hn2 : ∀ y ∈ (items p.m).take (j + 1), (y.1 : Int) ≠ b := by
              intro y hy
              rw [List.take_add_one, hx, List.mem_append] at hy
              rcases hy with hy | hy
              · exact hne y hy
              · obtain rfl : y = (xb, xc) := by simpa using hy
                exact hxb
            have HN2 := Lib.hid hn2
            clear hxb hmem hx hne hbw hpg hn2
            go_wp2
            refine ⟨⟨⟨j + 1, by omega, by rw [Int.natCast_add]; rfl, HN2.out, HBW.out⟩⟩, by simp only [intOf]; omega⟩
        · have hke : j = (items p.m).length := by omega
          have hljd : decide ((j : Int) < ((items p.m).length : Int)) = false := decide_eq_false (by omega)
          have HM := Lib.hid (show getL L id b = (0, 12) by
            rw [HE.out.2.2.2.1]
            refine getM_miss HBB.out fun y hy => hne y ?_
            rw [hke, List.take_length]; exact hy)
          clear hne hbw hke
          go_wp2
          go_ret2
          exact ⟨by rw [HM.out]; rfl, HBW.out⟩

set_option maxRecDepth 20000 in
set_option maxHeartbeats 1000000 in
theorem rGet_any {ok : Nat → Prop} (vv vs : Value) (S : SpaceM) (id b : Int) (w : World) (hS : RefAt ok w vv vs S) (hl : S.vols.length ≤ 1000) :
    Calls Tryz.prog 10 #[.agg #[vv, vs], .int .i64 id, .int .i64 b] w fun e w' => e = .returned (.tuple #[.int .i64 (S.get id b).1, .int .i64 (S.get id b).2]) ∧ Below w.heap.size w w' := by
  obtain ⟨va, vc, rfl, hvc, hvm⟩ := hS.v.slice
  obtain ⟨sa, sc, rfl, hsc, hsm⟩ := hS.s.slice
  have hb0 := (Below.refl w.heap.size w).alloc (Nat.le_refl _) (.cells #[.slice va S.vols.length vc, .slice sa S.snaps.length sc] TRS)
  have HG := Lib.hid (rget_any (.slice va S.vols.length vc) S.vols id b _ (hS.v.below hb0) hl)
  have HB := Lib.hid hb0
  clear hS hvc hvm hsc hsm hb0
  go_enter Tryz.func10, Tryz.ntmps10
  go_wp2_with (go_at_call 48; refine HG.out.mono ?_; rintro e W2 ⟨rfl, h2⟩)
  go_ret2
  exact ⟨rfl, HB.out.trans (h2.mono HB.out.size)⟩
set_option maxRecDepth 20000 in
set_option maxHeartbeats 1000000 in
theorem rLook_any {ok : Nat → Prop} (vv vs : Value) (S : SpaceM) (id b : Int) (w : World) (hS : RefAt ok w vv vs S) (hl : S.snaps.length ≤ 1000) :
    Calls Tryz.prog 12 #[.agg #[vv, vs], .int .i64 id, .int .i64 b] w fun e w' => e = .returned (.tuple #[.int .i64 (S.look id b).1, .int .i64 (S.look id b).2]) ∧ Below w.heap.size w w' := by
  obtain ⟨va, vc, rfl, hvc, hvm⟩ := hS.v.slice
  obtain ⟨sa, sc, rfl, hsc, hsm⟩ := hS.s.slice
  have hb0 := (Below.refl w.heap.size w).alloc (Nat.le_refl _) (.cells #[.slice va S.vols.length vc, .slice sa S.snaps.length sc] TRS)
  have HG := Lib.hid (rget_any (.slice sa S.snaps.length sc) S.snaps id b _ (hS.s.below hb0) hl)
  have HB := Lib.hid hb0
  clear hS hvc hvm hsc hsm hb0
  go_enter Tryz.func12, Tryz.ntmps12
  go_wp2_with (go_at_call 48; refine HG.out.mono ?_; rintro e W2 ⟨rfl, h2⟩)
  go_ret2
  exact ⟨rfl, HB.out.trans (h2.mono HB.out.size)⟩
end Go.Proofs.YtednjhlkhecihaaGreatDoor

/- ref27.Space.Diff; law27.ints. -/
namespace Go.Proofs.YtednjhlkhecihaaGreatDoor
open Go.RowKit Go.Vol Go.Sl

theorem info_intR : (Tryz.prog.info? 3).map (fun i => (i.zero, i.size, i.bytes)) = some (some (.int .i64 0), 1, 8) := by kernel_rfl
theorem news1 (W : World) (a : Value) (T : TypeId) : ∀ (j : Nat) (u : Value), ([a] : List Value)[j]? = some u → (W.alloc (.cells #[a] T)).cell? ((⟨W.heap.size, 0, none⟩ : Addr).add j) = some u := by
  intro j u hu
  rw [Addr.add_mid, cells_at (heap_alloc_new _ _), Nat.zero_add]
  simpa using hu
structure RdSt (w : World) (B : Nat) (a b : Value) (d : MapM) (v i : Value) (wr : World) : Prop where
  st : ∃ k : Nat, k ≤ 4096 ∧ i = .int .i64 (k : Int) ∧ Same w wr ∧ Sat wr (ownAt 3 1 v (itemsF k 0 d).length ((itemsF k 0 d).flatMap cellD) * (pts B (.cells #[a, b] TRS (0, 0)) * old w))
theorem itemsF_len_le (m : MapM) (n : Nat) : (itemsF n 0 m).length ≤ n := by rw [itemsF_len]; exact cntF_le n m

set_option maxRecDepth 20000 in
set_option maxHeartbeats 4000000 in
theorem rdiff_any {ok : Nat → Prop} (vv vs : Value) (S : SpaceM) (a b : Int) (w : World) (hS : RefAt ok w vv vs S) (hl : S.snaps.length ≤ 1000) :
    Calls Tryz.prog 14 #[.agg #[vv, vs], .int .i64 a, .int .i64 b] w fun e w' => ∃ r, e = .returned (.tuple #[r, .int .i64 (diffMM S a b).2]) ∧ Hid (Below w.heap.size w w' ∧ RowsAt w' r (diffMM S a b).1.length ((diffMM S a b).1.flatMap cellD)) := by
  obtain ⟨va, vc, rfl, hvc, hvm⟩ := hS.v.slice
  obtain ⟨sa, sc, rfl, hsc, hsm⟩ := hS.s.slice
  have HS := Lib.hid hS
  have h0 := (Sat.old w).alloc (.cells #[.slice va S.vols.length vc, .slice sa S.snaps.length sc] TRS)
  have hs0 := (Same.refl w).alloc (.cells #[.slice va S.vols.length vc, .slice sa S.snaps.length sc] TRS)
  have H1 := Lib.hid (And.intro hs0 h0)
  have HAT := Lib.hid (fun (W : World) (id : Int) (h : Below w.heap.size w W) => rat_any (.slice sa S.snaps.length sc) S.snaps id W (HS.out.s.below h))
  have HGT := Lib.hid (fun (W : World) (id n : Int) (h : Below w.heap.size w W) => rget_any (.slice sa S.snaps.length sc) S.snaps id n W (HS.out.s.below h) hl)
  obtain ⟨ti, hti, hz0, hts, hz2⟩ := info_parts info_intR
  have hll : (S.snaps.length : Int) ≤ 1000 := by omega
  clear hS hvc hvm hsc hsm h0 hs0
  go_enter Tryz.func14, Tryz.ntmps14
  go_upto_region 1 with (fail)
  generalize w.alloc (.cells #[.slice va S.vols.length vc, .slice sa S.snaps.length sc] TRS) = W0 at H1 ⊢
  generalize hBB : w.heap.size = B at H1 ⊢
  have c1 := cells_at H1.out.2.block 1
  have HB := Lib.hid (H1.out.1.below_of H1.out.2)
  go_upto_region 2 with (go_at_call 51; refine (HAT.out _ a HB.out).mono ?_; rintro e W2 ⟨rfl, h2⟩; replace H1 := Lib.hid (And.intro (H1.out.1.trans (same_below h2)) (H1.out.2.keep h2.block)); replace HB := Lib.hid (H1.out.1.below_of H1.out.2); clear h2 c1; have c1 := cells_at H1.out.2.block 1)
  go_upto_region 3 with (go_at_call 51; refine (HAT.out _ b HB.out).mono ?_; rintro e W3 ⟨rfl, h2⟩; replace H1 := Lib.hid (And.intro (H1.out.1.trans (same_below h2)) (H1.out.2.keep h2.block)); replace HB := Lib.hid (H1.out.1.below_of H1.out.2); clear h2 c1; have c1 := cells_at H1.out.2.block 1)
  rcases atP_cases S.snaps a with ⟨hn, hi⟩ | ⟨x, hx, hi, hlt, -⟩
  · have HM := Lib.hid (show diffMM S a b = ([], 12) by unfold diffMM snapF; rw [← atN_find, hn])
    rw [hi]
    clear hn hi c1
    go_wp2
    go_ret2
    refine ⟨_, by rw [HM.out]; rfl, HB.out, ?_⟩
    rw [HM.out]
    exact RowsAt.nil _
  rcases atP_cases S.snaps b with ⟨hn, hi'⟩ | ⟨y, hy, hi', hlt', -⟩
  · have HM := Lib.hid (show diffMM S a b = ([], 12) by unfold diffMM snapF; rw [← atN_find, ← atN_find, hn, hx])
    rw [hi, hi']
    generalize atN S.snaps a = ka at *
    have hka : (ka : Int) ≤ 1000 := by omega
    have hkn : decide ((ka : Int) < 0) = false := decide_eq_false (by omega)
    clear hn hi hi' c1 hx hlt
    go_wp2
    go_ret2
    refine ⟨_, by rw [HM.out]; rfl, HB.out, ?_⟩
    rw [HM.out]
    exact RowsAt.nil _
  have HM := Lib.hid (show diffMM S a b = (items (dm x.m y.m), 0) by unfold diffMM snapF; rw [← atN_find, ← atN_find, hx, hy])
  have HGA := Lib.hid (fun n : Int => show getL S.snaps a n = SpaceM.getM x.m n by unfold getL; rw [hx])
  have HGB := Lib.hid (fun n : Int => show getL S.snaps b n = SpaceM.getM y.m n by unfold getL; rw [hy])
  rw [hi, hi']
  generalize atN S.snaps a = ka at *
  generalize atN S.snaps b = kb at *
  have hka : (ka : Int) ≤ 1000 := by omega
  have hkn : decide ((ka : Int) < 0) = false := decide_eq_false (by omega)
  have hkb : (kb : Int) ≤ 1000 := by omega
  have hkbn : decide ((kb : Int) < 0) = false := decide_eq_false (by omega)
  clear hi hi' c1 hx hlt hy hlt'
  go_wp2
  go_loopw [10, 11, 12, 13, 14, 15] (fun v i _ _ _ _ wr => RdSt w B (.slice va S.vols.length vc) (.slice sa S.snaps.length sc) (dm x.m y.m) v i wr) (fun _ i _ _ _ _ _ => 4096 - (intOf i).toNat)
  case atStart => exact ⟨⟨0, Nat.zero_le _, rfl, H1.out.1, ownAt_nil.2 H1.out.2⟩⟩
  case round =>
    clear H1 HB
    obtain ⟨k, hk, rfl, hsm, hs⟩ := hrel.st
    clear hrel
    obtain ⟨ra, rc, rfl⟩ := ownAt_slice hs
    have H1 := Lib.hid (And.intro hsm hs)
    have HB := Lib.hid (H1.out.1.below_of (H1.out.2.perm (star_assoc _ _ _).symm))
    have hln := itemsF_len_le (dm x.m y.m) k
    clear hsm hs
    by_cases hlt : k < 4096
    · have hki : (k : Int) < 4096 := by omega
      have hltd : decide ((k : Int) < 4096) = true := decide_eq_true hki
      have c1 := cells_at H1.out.2.right.block 1
      go_upto_region 10 with (go_at_call 48; refine (HGT.out _ a (k : Int) HB.out).mono ?_; rintro e W2 ⟨rfl, h2⟩; replace H1 := Lib.hid (And.intro (H1.out.1.trans (same_below h2)) (H1.out.2.keep h2.block)); replace HB := Lib.hid (H1.out.1.below_of (H1.out.2.perm (star_assoc _ _ _).symm)); clear h2 c1; have c1 := cells_at H1.out.2.right.block 1)
      go_upto_region 11 with (go_at_call 48; refine (HGT.out _ b (k : Int) HB.out).mono ?_; rintro e W3 ⟨rfl, h2⟩; replace H1 := Lib.hid (And.intro (H1.out.1.trans (same_below h2)) (H1.out.2.keep h2.block)); replace HB := Lib.hid (H1.out.1.below_of (H1.out.2.perm (star_assoc _ _ _).symm)); clear h2 c1)
      rw [HGA.out, HGB.out]
      have HNE := getM_ne (m := x.m) (m' := y.m) hlt
      by_cases hxy : x.m k = y.m k
      · have hge : SpaceM.getM x.m (k : Int) = SpaceM.getM y.m (k : Int) := by
          apply Classical.byContradiction
          intro h
          exact HNE.1 h hxy
        have HX := Lib.hid (show itemsF (k + 1) 0 (dm x.m y.m) = itemsF k 0 (dm x.m y.m) from itemsF_none (dm_none hxy))
        rw [hge]
        clear HNE hxy hge
        go_wp2
        refine ⟨⟨⟨k + 1, by omega, by rw [Int.natCast_add]; rfl, H1.out.1, by rw [HX.out]; exact H1.out.2⟩⟩, by simp only [intOf]; omega⟩
      · have hgn := HNE.2 hxy
        have HX := Lib.hid (show itemsF (k + 1) 0 (dm x.m y.m) = itemsF k 0 (dm x.m y.m) ++ [(k, 0)] by have := itemsF_some (first := 0) (dm_some hxy); rw [Nat.zero_add] at this; exact this)
        generalize SpaceM.getM x.m (k : Int) = gx at *
        generalize SpaceM.getM y.m (k : Int) = gy at *
        obtain ⟨x1, x2⟩ := gx
        obtain ⟨y1, y2⟩ := gy
        simp only
        by_cases h1 : x1 = y1
        · have h1d : (x1 != y1) = false := by simp [h1]
          have h2d : (x2 != y2) = true := by
            simp only [bne_iff_ne, ne_eq]
            intro h2
            exact hgn (by rw [h1, h2])
          clear HNE hxy hgn h1
          go_wp2_with (at_builtin; refine wpList_append_ownAt rfl _ _ 39 3 rfl ti _ Tryz.underlying39 hti hz0 hts hz2 rfl (H1.out.2.allocKeep _) ([.int .i64 (k : Int)]) rfl rfl rfl (news1 _ _ _) (by simp [Value.oneCell']) (by unfold maxLen; omega) (by omega) ?_; intro v2 w2 h2; obtain ⟨r2, k2, rfl⟩ := ownAt_slice h2.out.2)
          refine ⟨⟨⟨k + 1, by omega, by rw [Int.natCast_add]; rfl, (H1.out.1.alloc _).trans h2.out.1, ?_⟩⟩, by simp only [intOf]; omega⟩
          rw [HX.out, List.flatMap_append, List.length_append]
          exact h2.out.2
        · have h1d : (x1 != y1) = true := by simp [h1]
          clear HNE hxy hgn h1
          go_wp2_with (at_builtin; refine wpList_append_ownAt rfl _ _ 39 3 rfl ti _ Tryz.underlying39 hti hz0 hts hz2 rfl (H1.out.2.allocKeep _) ([.int .i64 (k : Int)]) rfl rfl rfl (news1 _ _ _) (by simp [Value.oneCell']) (by unfold maxLen; omega) (by omega) ?_; intro v2 w2 h2; obtain ⟨r2, k2, rfl⟩ := ownAt_slice h2.out.2)
          refine ⟨⟨⟨k + 1, by omega, by rw [Int.natCast_add]; rfl, (H1.out.1.alloc _).trans h2.out.1, ?_⟩⟩, by simp only [intOf]; omega⟩
          rw [HX.out, List.flatMap_append, List.length_append]
          exact h2.out.2
    · obtain rfl : k = 4096 := by omega
      have hltd : decide (((4096 : Nat) : Int) < 4096) = false := decide_eq_false (by omega)
      clear hlt
      go_wp2
      go_ret2
      refine ⟨_, by rw [HM.out]; rfl, HB.out, ?_⟩
      rw [HM.out]
      exact RowsAt.own H1.out.2 (by omega)

structure InSt (w : World) (n : Nat) (i : Value) (wr : World) : Prop where
  st : ∃ k : Nat, k ≤ n ∧ i = .int .i64 (k : Int) ∧ Below w.heap.size w wr
theorem flat_cellD : ∀ A : List (Nat × Int), A.flatMap cellD = A.map fun x => Value.int .i64 (x.1 : Int)
  | [] => rfl
  | y :: r => by rw [List.flatMap_cons, flat_cellD r]; rfl
theorem cellD_at {w : World} {ao : Option Addr} {n cap : Nat} {A : List (Nat × Int)} {k : Nat} {x : Nat × Int} (h : RowsAt w (.slice ao n cap) A.length (A.flatMap cellD)) (hx : A[k]? = some x) : ∃ g : Nat, ao = some ⟨g, 0, none⟩ ∧ g < w.heap.size ∧ w.cell? ⟨g, k, none⟩ = some (.int .i64 (x.1 : Int)) := by
  obtain ⟨ao', cap', e, _, _, h4⟩ := h
  obtain ⟨b, hb, hlt, hc⟩ := h4 (by have := (List.getElem?_eq_some_iff.1 hx).1; omega)
  simp only [Value.slice.injEq] at e
  obtain ⟨rfl, -, -⟩ := e
  refine ⟨b, hb, hlt, hc k _ ?_⟩
  rw [flat_cellD, List.getElem?_map, hx]; rfl
set_option maxRecDepth 20000 in
set_option maxHeartbeats 2000000 in
theorem ints27_any (va vb : Value) (A : List (Nat × Int)) (w : World) (ha : RowsAt w va A.length (A.flatMap cellD)) (hb : RowsAt w vb A.length (A.flatMap cellD)) :
    Calls Tryz.prog 15 #[va, vb] w fun e w' => e = .returned (.bool true) ∧ Below w.heap.size w w' := by
  obtain ⟨ao, cap, rfl, hc1, hc2, -⟩ := id ha
  obtain ⟨bo, bcap, rfl, hd1, hd2, -⟩ := id hb
  unfold maxLen at hc2
  have hb63 : A.length ≤ 9223372036854775807 := by omega
  have HR := Lib.hid (And.intro ha hb)
  clear ha hb hc1 hc2 hd1 hd2
  go_enter Tryz.func15, Tryz.ntmps15
  go_wp2
  go_loopw [5] (fun i wr => InSt w A.length i wr) (fun i _ => A.length - (intOf i).toNat)
  case atStart => exact ⟨⟨0, Nat.zero_le _, rfl, Below.refl _ _⟩⟩
  case round =>
    obtain ⟨k, hk, rfl, hbw⟩ := hrel.st
    clear hrel
    by_cases hlt : k < A.length
    · have hltd : decide ((k : Int) < (A.length : Int)) = true := decide_eq_true (by omega)
      have hki : (k : Int) ≤ 9223372036854775806 := by omega
      obtain ⟨x, hx⟩ : ∃ x, A[k]? = some x := ⟨_, List.getElem?_eq_getElem hlt⟩
      obtain ⟨ga, rfl, hga, a0⟩ := cellD_at HR.out.1 hx
      obtain ⟨gb, rfl, hgb, b0⟩ := cellD_at HR.out.2 hx
      have a0 := (hbw.cell (p := ⟨ga, k, none⟩) hga).trans a0
      have b0 := (hbw.cell (p := ⟨gb, k, none⟩) hgb).trans b0
      have HB := Lib.hid hbw
      clear hx hbw hga hgb
      go_upto_region 6 with (fail)
      have hS : wr.drew.cell? ⟨ga, k, none⟩ = some (.int .i64 (x.1 : Int)) ∧ wr.drew.cell? ⟨gb, k, none⟩ = some (.int .i64 (x.1 : Int)) := ⟨a0, b0⟩
      refine reg_begin (fun w' => w'.cell? ⟨ga, k, none⟩ = some (.int .i64 (x.1 : Int)) ∧ w'.cell? ⟨gb, k, none⟩ = some (.int .i64 (x.1 : Int))) (by kernel_rfl) ?_
      (apply reg_take 0 rfl rfl (by decide +kernel) rfl); (rintro w' ⟨h1, h2⟩; go_simp; rfl); exact hS; simp only [List.setIfInBounds_toArray, List.set_cons_succ, List.set_cons_zero]
      (apply reg_take 1 rfl rfl (by decide +kernel) rfl); (rintro w' ⟨h1, h2⟩; go_simp; rfl); exact hS; simp only [List.setIfInBounds_toArray, List.set_cons_succ, List.set_cons_zero]
      (apply reg_take 2 rfl rfl (by decide +kernel) rfl); (rintro w' ⟨h1, h2⟩; go_simp; rfl); exact hS; simp only [List.setIfInBounds_toArray, List.set_cons_succ, List.set_cons_zero]
      (apply reg_take 3 rfl rfl (by decide +kernel) rfl); (rintro w' ⟨h1, h2⟩; go_simp; rfl); exact hS; simp only [List.setIfInBounds_toArray, List.set_cons_succ, List.set_cons_zero]
      (apply reg_take 4 rfl rfl (by decide +kernel) rfl); (rintro w' ⟨h1, h2⟩; go_simp; rfl); exact hS; simp only [List.setIfInBounds_toArray, List.set_cons_succ, List.set_cons_zero]
      (apply reg_take 5 rfl rfl (by decide +kernel) rfl); (rintro w' ⟨h1, h2⟩; go_simp; rfl); exact hS; simp only [List.setIfInBounds_toArray, List.set_cons_succ, List.set_cons_zero]
      (apply reg_take 6 rfl rfl (by decide +kernel) rfl); (rintro w' ⟨h1, h2⟩; go_simp; rfl); exact hS; simp only [List.setIfInBounds_toArray, List.set_cons_succ, List.set_cons_zero]
      (apply reg_take 7 rfl rfl (by decide +kernel) rfl); (rintro w' ⟨h1, h2⟩; go_simp; rfl); exact hS; simp only [List.setIfInBounds_toArray, List.set_cons_succ, List.set_cons_zero]
      (apply reg_take 8 rfl rfl (by decide +kernel) rfl); (rintro w' ⟨h1, h2⟩; go_simp; rfl); exact hS; simp only [List.setIfInBounds_toArray, List.set_cons_succ, List.set_cons_zero]
      refine reg_done (by decide +kernel) ?_
      clear hS a0 b0
      go_wp2
      refine ⟨⟨⟨k + 1, by omega, by rw [Int.natCast_add]; rfl, HB.out.trans ⟨rfl, rfl, rfl, Nat.le_refl _, fun _ _ => rfl⟩⟩⟩, by simp only [intOf]; omega⟩
    · have hke : k = A.length := by omega
      have hltd : decide ((k : Int) < (A.length : Int)) = false := decide_eq_false (by omega)
      clear hke
      go_wp2
      go_ret
      exact ⟨rfl, hbw⟩
end Go.Proofs.YtednjhlkhecihaaGreatDoor

/- ref27.Space.Refs. -/
namespace Go.Sl
open Go Go.RowKit
section
variable {P : Program} {w : World} {F : HProp}
theorem run_append_row0' (t ty e : TypeId) (i : TypeInfo) (ht : P.underlying t = some (.slice e)) (hi : P.info? e = some i) (bo ao : Option Addr) (n cap c : Nat) (hn : n ≤ cap) :
    (Builtin.append_ #[t, t] ty #[.slice bo n cap, .slice ao 0 c]).run P w = .ok (.slice bo n cap) w := by
  cases bo <;> cases ao <;> simp [Builtin.append_, run_underlying ht, sizeOf, typeInfo, hi, Builtin.lenOf, Builtin.firstCells, loadCells, loadCellsFrom, storeCells, hn]
theorem wpList_append_rw' {ops : Array Oper} {rest : List Oper} {o : Oper} {a : Act} {Q : Exit → Act → World → Prop} (hg : o.guard = none) (s x : Operand) (t e : TypeId)
    (ho : o.op = .call { callee := .builtin .append, args := #[s, x], argTypes := #[t, t] }) (i : TypeInfo) (z : Value) (ht : P.underlying t = some (.slice e)) (hi : P.info? e = some i) (hz : i.zero = some z) {sz by_ : Nat} (hsz : i.size = sz) (hby : i.bytes = by_) (hzs : z.cells.size = sz)
    {v : Value} {n : Nat} {xs : List Value} (h : Sat w (ownAt e sz v n xs * F)) {y : Value} {m : Nat} (news : List Value) (hs : a.eval s = v) (hx : a.eval x = y) (hr : Go.Vol.RowsAt w y m news)
    (hl : news.length = m * sz) (h1 : ∀ u ∈ news, u.oneCell' = true) (h63 : n + m ≤ maxLen) (hbytes : (n + m) * by_ ≤ 140737488355328)
    (k : ∀ v' w', Hid (Same w w' ∧ Sat w' (ownAt e sz v' (n + m) (xs ++ news) * F)) → wpList P ops Q rest (a.put o.dst v') w') : wpList P ops Q (o :: rest) a w := by
  obtain ⟨ao, cap, rfl, hcap, hmax, h4⟩ := hr
  by_cases hm : m = 0
  · subst hm
    have hnil : news = [] := List.eq_nil_of_length_eq_zero (by simpa using hl)
    subst hnil
    have hle : ∃ bo cp, v = .slice bo n cp ∧ n ≤ cp := by
      rcases ownAt_iff.1 h with ⟨rfl, rfl, _, _⟩ | ⟨g, cap, cur, ⟨rfl, h1, _⟩, _⟩
      · exact ⟨_, _, rfl, Nat.le_refl _⟩
      · exact ⟨_, _, rfl, h1⟩
    obtain ⟨bo, cp, rfl, hnc⟩ := hle
    have hrun := run_append_row0' (P := P) (w := w) t o.type e i ht hi bo ao n cp cap hnc
    refine wpList_run hg (v := .slice bo n cp) (w' := w) ?_ (k _ w ⟨Same.refl w, by simpa using h⟩)
    unfold execOp
    simp only [ho, resolve, invoke, builtin, Sem.run_bind, Sem.run_pure, Result.andThen_ok, List.map_toArray, List.map_cons, List.map_nil, hs, hx, hrun]
  · obtain ⟨b, rfl, hb, hc⟩ := h4 (by omega)
    exact wpList_append_ownAt hg s x t e ho i z ht hi hz hsz hby hzs h news hs hx hl (fun j u hu => by rw [Addr.add_mid, Nat.zero_add]; exact hc j u hu) h1 h63 hbytes k
end
end Go.Sl
namespace Go.Proofs.YtednjhlkhecihaaGreatDoor
open Go.RowKit Go.Vol Go.Sl

theorem all_refL' {ok : Nat → Prop} {w W : World} {v : Value} {l : List ElM} {R : HProp} {n : Nat} (hn : n = l.length) (h : Sat W (ownAt TP 4 v n (l.flatMap rpE) * (R * old w))) (hb : Below w.heap.size w W) (hm : ∀ x ∈ l, MapRow ok w x) : RefL (newer ok w) W v (l.map Prod.fst) := by
  subst hn
  refine ⟨l, rfl, (RowK.own h (by omega)).weaken fun b hb _ => .inr hb, fun x hx => ?_⟩
  exact RowK.weaken (RowK.below (hm x hx) hb) fun b hb _ => .inl hb
theorem cntS_app (S : SpaceM) (c : Int) : cntS S c = cntOf (S.vols ++ S.snaps) c zeroF := by unfold cntS cntOf; rw [List.foldl_append]
theorem cnt_step {L : List PartM} {i : Nat} {p : PartM} (h : L[i]? = some p) (c : Int) (t : Nat) (ht : 0 ≤ p.tenant) :
    cntOf (L.take (i + 1)) c zeroF t = cntOf (L.take i) c zeroF t + if p.tenant = (t : Int) then (hits c (items p.m) : Int) else 0 := by
  rw [cntOf_take h]
  unfold bump
  by_cases e : p.tenant = (t : Int)
  · rw [if_pos e, if_pos (by omega)]
  · rw [if_neg e, if_neg (by omega)]; simp
structure RrSt (w2 : World) (f : Nat → Int) (v i : Value) (wr : World) : Prop where
  st : ∃ t : Nat, t ≤ 16 ∧ i = .int .i64 (t : Int) ∧ Same w2 wr ∧ Sat wr (ownAt TRef 2 v (refsF t f).length ((refsF t f).flatMap refE) * old w2)
structure RnSt (w : World) (L : List PartM) (c : Int) (t : Nat) (n i : Value) (wr : World) : Prop where
  st : ∃ k : Nat, k ≤ L.length ∧ i = .int .i64 (k : Int) ∧ n = .int .i64 (cntOf (L.take k) c zeroF t) ∧ wr = w
structure RkSt (w : World) (its : List (Nat × Int)) (c n0 : Int) (on : Bool) (n i : Value) (wr : World) : Prop where
  st : ∃ k : Nat, k ≤ its.length ∧ i = .int .i64 (k : Int) ∧ n = .int .i64 (n0 + if on = true then (hits c (its.take k) : Int) else 0) ∧ wr = w
theorem hits_take {its : List (Nat × Int)} {k : Nat} {x : Nat × Int} (h : its[k]? = some x) (c : Int) : hits c (its.take (k + 1)) = hits c (its.take k) + if x.2 = c then 1 else 0 := by
  rw [List.take_add_one, h]; exact hits_snoc _ _ _
theorem refsF_len_le (n : Nat) (f : Nat → Int) : (refsF n f).length ≤ n := by
  unfold refsF
  have := List.length_filterMap_le (fun t => if 0 < f t then some (t, f t) else none) (List.range n)
  simpa using this
theorem cnt_bound (L : List PartM) (c : Int) (t k : Nat) (hL : L.length ≤ 400) : 0 ≤ cntOf (L.take k) c zeroF t ∧ cntOf (L.take k) c zeroF t ≤ 1638400 := by
  have h := cntOf_le c t (L.take k) zeroF 0 (by simp [zeroF]) (by simp [zeroF])
  have h2 : (L.take k).length ≤ 400 := by rw [List.length_take]; omega
  refine ⟨h.1, ?_⟩
  have := h.2
  omega

set_option maxRecDepth 20000 in
set_option maxHeartbeats 8000000 in
theorem rrefs_any {ok : Nat → Prop} (vv vs : Value) (S : SpaceM) (c : Int) (w : World) (hS : RefAt ok w vv vs S) (hwf : S.WF) :
    Calls Tryz.prog 18 #[.agg #[vv, vs], .int .i64 c] w fun e w' => ∃ v, e = .returned v ∧ Hid (Below w.heap.size w w' ∧ RowsAt w' v (refsS S c).length ((refsS S c).flatMap refE)) := by
  obtain ⟨lv, hlv, hrv, hmv⟩ := hS.v
  obtain ⟨ls, hls, hrs, hms⟩ := hS.s
  have hvl := hwf.vlen
  have hsl := hwf.slen
  have hten : ∀ p ∈ S.vols ++ S.snaps, 0 ≤ p.tenant := fun p hp => by
    rcases List.mem_append.1 hp with hp | hp
    · exact (hwf.vp p hp).ten.1
    · exact (hwf.sp p hp).ten.1
  have e1 : lv.length = S.vols.length := by rw [← hlv, List.length_map]
  have e2 : ls.length = S.snaps.length := by rw [← hls, List.length_map]
  have hb0 := (Below.refl w.heap.size w).alloc (Nat.le_refl _) (.cells #[vv, vs] TRS)
  have HR := Lib.hid (And.intro (hrv.below hb0).rows (hrs.below hb0).rows)
  have HS0 := Lib.hid (fun (W : World) (h : Below w.heap.size w W) => (hrs.below h).rows)
  have HM0 := Lib.hid (And.intro hmv hms)
  have HM := Lib.hid (show ∀ x ∈ lv ++ ls, MapRow ok w x from fun x hx => (List.mem_append.1 hx).elim (hmv x) (hms x))
  have H0 := Lib.hid (And.intro ((Same.refl w).alloc (.cells #[vv, vs] TRS)) ((Sat.old w).alloc (.cells #[vv, vs] TRS)))
  have HL := Lib.hid (And.intro hlv hls)
  have HTN := Lib.hid hten
  clear hS hwf hlv hls hrv hrs hmv hms hb0 hten
  obtain ⟨ti, hti, hz0, hts, hz2⟩ := info_parts info_TP
  have HG := Lib.hid (show refsS S c = refsF 16 (cntOf (S.vols ++ S.snaps) c zeroF) by unfold refsS; rw [cntS_app])
  generalize refsS S c = G at HG ⊢
  go_enter Tryz.func18, Tryz.ntmps18
  have HR2 := Lib.hid (And.intro HR.out.1 HR.out.2)
  go_upto_region 3 with (at_builtin; refine wpList_append_rw' rfl _ _ TPs TP rfl ti _ Tryz.underlying26 hti hz0 hts hz2 rfl (ownAt_nil.2 H0.out.2) (lv.flatMap rpE) rfl rfl HR2.out.1 (flat_len rpE_len lv) (rp_one (HM0.out.1)) (by unfold maxLen; omega) (by omega) ?_; intro v1 w1 h1)
  simp only [Nat.zero_add, List.nil_append] at h1
  have H1 := Lib.hid (And.intro (H0.out.1.trans h1.out.1) h1.out.2)
  clear h1 H0 HR2
  generalize w.heap.size = A at H1 ⊢
  have c1 : w1.cell? ⟨A, 1, none⟩ = some vs := cells_at H1.out.2.right.block 1
  have HR1 := Lib.hid (HS0.out w1 (H1.out.1.below_of H1.out.2.right))
  go_upto_region 4 with (at_builtin; refine wpList_append_rw' rfl _ _ TPs TP rfl ti _ Tryz.underlying26 hti hz0 hts hz2 rfl H1.out.2 (ls.flatMap rpE) rfl rfl HR1.out (flat_len rpE_len ls) (rp_one HM0.out.2) (by unfold maxLen; omega) (by omega) ?_; intro v2 w2 h2)
  rw [← List.flatMap_append] at h2
  have HB := Lib.hid ((H1.out.1.trans h2.out.1).below_of h2.out.2.right)
  have HALL := Lib.hid (all_refL' (by rw [List.length_append]) h2.out.2 HB.out HM.out)
  clear H1 HR1 c1 h2
  rw [show (lv ++ ls).map Prod.fst = S.vols ++ S.snaps by rw [List.map_append, HL.out.1, HL.out.2]] at HALL
  obtain ⟨va, vc, rfl, hvc, hvm⟩ := HALL.out.slice
  have hLl : (S.vols ++ S.snaps).length ≤ 400 := by rw [List.length_append]; omega
  generalize S.vols ++ S.snaps = L at HALL hvc hLl HG HTN ⊢
  clear hvm hvc hti hz0 hts hz2 e1 e2 hvl hsl ti
  obtain ⟨ti, hti, hz0, hts, hz2⟩ := info_parts info_ref
  have HCB := Lib.hid (fun (t k : Nat) => cnt_bound L c t k hLl)
  go_wp2
  go_loopw [6, 7] (fun v i wr => RrSt w2 (cntOf L c zeroF) v i wr) (fun _ i _ => 16 - (intOf i).toNat)
  case atStart => exact ⟨⟨0, Nat.zero_le _, rfl, Same.refl _, ownAt_nil.2 (Sat.old w2)⟩⟩
  case round =>
    obtain ⟨t, ht, rfl, hsm, hs⟩ := hrel.st
    clear hrel
    obtain ⟨ra, rc, rfl⟩ := ownAt_slice hs
    have H9 := Lib.hid (And.intro hsm hs)
    have HBW := Lib.hid (hsm.below_of hs)
    have hrl := refsF_len_le t (cntOf L c zeroF)
    clear hsm hs
    by_cases hlt : t < 16
    · have htd : decide ((t : Int) < 16) = true := decide_eq_true (by omega)
      have hti' : (t : Int) < 16 := by omega
      go_upto_region 10 with (fail)
      obtain ⟨wo, rfl⟩ : ∃ wo : World, wo = wr := ⟨_, rfl⟩
      go_loopw [8, 9] (fun n i wr => RnSt wo L c t n i wr) (fun _ i _ => L.length - (intOf i).toNat)
      case atStart => exact ⟨⟨0, Nat.zero_le _, rfl, rfl, rfl⟩⟩
      case round =>
        obtain ⟨k, hk, rfl, rfl, rfl⟩ := hrel.st
        clear hrel
        have hcb := HCB.out t k
        by_cases hlk : k < L.length
        · have hkd : decide ((k : Int) < (L.length : Int)) = true := decide_eq_true (by omega)
          have hki : (k : Int) ≤ 400 := by omega
          obtain ⟨x, hx⟩ : ∃ x, L[k]? = some x := ⟨_, List.getElem?_eq_getElem hlk⟩
          obtain ⟨g, pa, pc, hva, hg, e0, e1, e2, e3, hrow⟩ := part_at HALL.out hx
          cases hva
          have e1 := (HBW.out.cell (p := ⟨g, k * 4 + 1, none⟩) hg).trans e1
          have e3 := (HBW.out.cell (p := ⟨g, k * 4 + 3, none⟩) hg).trans e3
          have HSTEP := Lib.hid (cnt_step hx c t (HTN.out x (List.mem_of_getElem? hx)))
          have hil : (items x.m).length ≤ 4096 := by rw [items_len]; exact cnt_le x.m
          have HW := Lib.hid (hrow.rows)
          generalize cntOf (L.take k) c zeroF t = n0 at *
          have HNL := Lib.hid hlk
          clear hx e0 e2 hrow
          generalize items x.m = l at *
          go_upto_region 13 with (fail)
          obtain ⟨wo2, rfl⟩ : ∃ wo2 : World, wo2 = wr := ⟨_, rfl⟩
          go_loopw [8, 10] (fun n i wr => RkSt wo2 l c n0 (x.tenant == (t : Int)) n i wr) (fun _ i _ => l.length - (intOf i).toNat)
          case atStart => exact ⟨⟨0, Nat.zero_le _, rfl, by simp [hits], rfl⟩⟩
          case round =>
            obtain ⟨j, hj, rfl, rfl, rfl⟩ := hrel.st
            clear hrel
            have hjh := hits_le c (l.take j)
            rw [List.length_take] at hjh
            by_cases hlj : j < l.length
            · have hjd : decide ((j : Int) < (l.length : Int)) = true := decide_eq_true (by omega)
              have hji : (j : Int) ≤ 4096 := by omega
              obtain ⟨y, hy⟩ : ∃ y, l[j]? = some y := ⟨_, List.getElem?_eq_getElem hlj⟩
              obtain ⟨b, rfl, hbl, f0, f1⟩ := ref_cells HW.out hy
              have f1 := (HBW.out.cell (p := ⟨b, j * 2 + 1, none⟩) hbl).trans f1
              have HT2 := Lib.hid (hits_take hy c)
              clear hy f0
              cases hten : (x.tenant == (t : Int))
              · simp only [Bool.false_eq_true, if_false, Int.add_zero]
                go_wp2
                exact ⟨⟨⟨j + 1, by omega, by rw [Int.natCast_add]; rfl, by simp, rfl⟩⟩, by simp only [intOf]; omega⟩
              · simp only [if_true]
                generalize hits c (l.take j) = hj0 at *
                by_cases hyc : y.2 = c
                · have hycd : (y.2 == c) = true := by simpa using hyc
                  rw [if_pos hyc] at HT2
                  clear hyc
                  go_wp2
                  exact ⟨⟨⟨j + 1, by omega, by rw [Int.natCast_add]; rfl, by rw [HT2.out, if_pos rfl]; congr 1; omega, rfl⟩⟩, by simp only [intOf]; omega⟩
                · have hycd : (y.2 == c) = false := by simpa using hyc
                  rw [if_neg hyc] at HT2
                  clear hyc
                  go_wp2
                  exact ⟨⟨⟨j + 1, by omega, by rw [Int.natCast_add]; rfl, by rw [HT2.out, if_pos rfl]; congr 1, rfl⟩⟩, by simp only [intOf]; omega⟩
            · obtain rfl : j = l.length := by omega
              have hjd : decide ((l.length : Int) < (l.length : Int)) = false := decide_eq_false (by omega)
              have hnlt2 : ¬ (l.length : Int) < (l.length : Int) := by omega
              rw [List.take_length] at hjh ⊢
              have HQ := Lib.hid (show (n0 + if (x.tenant == (t : Int)) = true then (hits c l : Int) else 0) = cntOf (L.take (k + 1)) c zeroF t by
                rw [HSTEP.out]
                simp only [beq_iff_eq])
              have hcb2 := HCB.out t (k + 1)
              rw [HQ.out]
              clear hjh
              go_wp2
              exact ⟨⟨⟨k + 1, HNL.out, by rw [Int.natCast_add]; rfl, rfl, rfl⟩⟩, by simp only [intOf]; have := HNL.out; omega⟩
        · obtain rfl : k = L.length := by omega
          have hkd : decide ((L.length : Int) < (L.length : Int)) = false := decide_eq_false (by omega)
          have hnlt : ¬ (L.length : Int) < (L.length : Int) := by omega
          rw [List.take_length] at hcb ⊢
          have HST := Lib.hid (refsF_succ t (cntOf L c zeroF))
          generalize cntOf L c zeroF t = n0 at *
          by_cases hpos : 0 < n0
          · have hpd : decide (0 < n0) = true := decide_eq_true hpos
            rw [if_pos hpos] at HST
            clear hpos
            go_wp2_with (at_builtin; refine wpList_append_ownAt rfl _ _ 44 TRef rfl ti _ Tryz.underlying44 hti hz0 hts hz2 rfl (H9.out.2.allocKeep _) ([.int .i64 (t : Int), .int .i64 n0]) rfl rfl rfl (news2 _ _ _ _) (by simp [Value.oneCell']) (by unfold maxLen; omega) (by omega) ?_; intro v2 w2' h2; obtain ⟨r2, k2, rfl⟩ := ownAt_slice h2.out.2)
            refine ⟨⟨⟨t + 1, by omega, by rw [Int.natCast_add]; rfl, (H9.out.1.alloc _).trans h2.out.1, ?_⟩⟩, by simp only [intOf]; omega⟩
            rw [HST.out, List.flatMap_append, List.length_append]
            exact h2.out.2
          · have hpd : decide (0 < n0) = false := decide_eq_false hpos
            rw [if_neg hpos, List.append_nil] at HST
            clear hpos
            go_wp2
            exact ⟨⟨⟨t + 1, by omega, by rw [Int.natCast_add]; rfl, H9.out.1, by rw [HST.out]; exact H9.out.2⟩⟩, by simp only [intOf]; omega⟩
    · obtain rfl : t = 16 := by omega
      have htd : decide (((16 : Nat) : Int) < 16) = false := decide_eq_false (by omega)
      clear hlt
      go_wp2
      go_ret
      refine ⟨_, rfl, HB.out.trans (HBW.out.mono HB.out.size), ?_⟩
      rw [HG.out]
      exact RowsAt.own H9.out.2 (by omega)
end Go.Proofs.YtednjhlkhecihaaGreatDoor
