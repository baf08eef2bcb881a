/- Content and Image with rows that are new; solventlaw27.contents. Printed by uk.py. -/
import Derived.Test.YtednjhlkhecihaaUi
import Derived.Test.YtednjhlkhecihaaUc
import Derived.Test.YtednjhlkhecihaaWc
namespace Go.Proofs.Ytednjhlkhecihaa
open Go.RowKit Go.Vol Go.Sl

theorem RowK_ownsRow {w : World} {base : Nat} {e : TypeId} {k n : Nat} {v : Value} {L : List Value} (h : w.ownsRow base e k v n L) : RowK (fun b => base ≤ b) w v n L := by
  rcases h.2 with ⟨rfl, rfl⟩ | ⟨g, cap, cur, rfl, hge, hg, h1, h2, h3, h4⟩
  · exact ⟨none, 0, rfl, ⟨Nat.le_refl _, fun _ => rfl⟩, by unfold maxLen; omega, fun h => absurd h (Nat.lt_irrefl _)⟩
  · refine ⟨_, cap, rfl, ⟨h1, by simp⟩, h2, fun hn => ⟨g, rfl, hge, (Array.getElem?_eq_some_iff.1 hg).1, fun j u hu => ?_⟩⟩
    unfold World.cell?
    rw [hg]
    rw [← h4, List.getElem?_take] at hu
    split at hu
    · simpa using hu
    · cases hu
theorem mappingsK_any (nv : Int) (r : Value) (m : MapM) (w : World) (hn : NodeAt TNode w 2 r m) :
    Calls Try.prog 47 #[.agg #[r, .int .i64 nv]] w fun e w' => ∃ v, e = .returned v ∧ Hid (Below w.heap.size w w' ∧ RowK (fun b => w.heap.size ≤ b) w' v (items m).length ((items m).flatMap refE)) :=
  callsIn_wide.1 ((mappings_in Fence.wide rfl 3 (by omega) trivial trivial trivial trivial trivial rfl nv r m w (NodeOk.weaken (fun j _ hj => hj) hn)).mono fun e w' ⟨v, h1, h2, h3⟩ => ⟨v, h1, h3, RowK_ownsRow h2⟩)

set_option maxRecDepth 20000 in
set_option maxHeartbeats 1000000 in
theorem contK_any (p : Nat) (S : SpaceM) (v : Int) (w : World) (hS : SpaceAt TNode TSp w p S) :
    Calls Try.prog 18 #[.pointer (some ⟨p, 0, none⟩), .int .i64 v] w fun e w' => ∃ r, e = .returned (.tuple #[r, .int .i64 (contM S v).2]) ∧ Hid (Below w.heap.size w w' ∧ RowK (fun b => w.heap.size ≤ b) w' r (contM S v).1.length ((contM S v).1.flatMap refE)) := by
  obtain ⟨lv, ls, hlv, hls, ⟨vv, vs, hp, hrv, hrs⟩, hev, hes⟩ := hS
  obtain ⟨ao, cap, rfl, hvx⟩ := id hrv
  obtain ⟨so, scap, rfl, hsx⟩ := id hrs
  obtain ⟨c0, c1, hpl⟩ := sp_cells hp
  have hat := atvol_any (.slice ao lv.length cap) lv v w hrv
  rcases at_cases hlv v with ⟨hn, hi⟩ | ⟨x, hx, hsome, hi, hlt, hid, hae⟩
  · have HM := Lib.hid (show contM S v = ([], 12) by unfold contM volF; rw [← atN_find, hn])
    rw [hi] at hat
    have HA := Lib.hid hat
    clear hlv hls hp hrv hrs hev hes hn hi hat
    go_enter Try.func18, Try.ntmps18
    go_wp2_with (go_at_call 42; refine HA.out.mono ?_; rintro e w1 ⟨rfl, h2⟩)
    go_ret2
    refine ⟨_, by rw [HM.out]; rfl, h2, ?_⟩
    rw [HM.out]
    exact RowK.nil _ _
  · have HM := Lib.hid (show contM S v = (items x.1.m, 0) by unfold contM volF; rw [← atN_find, hsome])
    rw [hi] at hat
    have HA := Lib.hid hat
    obtain ⟨g, rfl, hgl, e0, e1, e2, e3⟩ := vol_cells hrv hx
    have hN := hev x (List.mem_of_getElem? hx)
    obtain ⟨q, hq⟩ := NodeAt.ptr hN
    rw [hq] at e2 hN
    have HK := Lib.hid (And.intro hN (And.intro e2 (And.intro e3 (And.intro c0 (And.intro hgl hpl)))))
    have HG := Lib.hid (fun (W : World) (hb : Below w.heap.size w W) => mappingsK_any (cnt x.1.m : Int) (.pointer q) x.1.m W (NodeAt.below hb HK.out.1))
    have hlen : lv.length ≤ 9223372036854775807 := by
      obtain ⟨_, _, e, h2, h3, _⟩ := hrv
      unfold maxLen at h3; simp only [Value.slice.injEq] at e; omega
    generalize atE lv v = i at *
    clear hlv hls hp hrv hrs hev hes hsome hi hat hN hq hid hae hx hvx hsx
    go_enter Try.func18, Try.ntmps18
    go_wp2_with (first
      | (go_at_call 42; refine HA.out.mono ?_; rintro e w1 ⟨rfl, h2⟩; clear e0 e1 e2 e3 c0 c1; have e2 := (h2.cell (p := ⟨g, i * 4 + 2, none⟩) HK.out.2.2.2.2.1).trans HK.out.2.1; have e3 := (h2.cell (p := ⟨g, i * 4 + 3, none⟩) HK.out.2.2.2.2.1).trans HK.out.2.2.1; have c0 := (h2.cell (p := ⟨p, 0, none⟩) HK.out.2.2.2.2.2).trans HK.out.2.2.2.1)
      | (go_at_call 47; refine (HG.out _ h2).mono ?_; rintro e w2 ⟨r, rfl, h3⟩))
    go_ret2
    refine ⟨_, by rw [HM.out]; rfl, h2.trans (h3.out.1.mono h2.size), ?_⟩
    rw [HM.out]
    exact h3.out.2.weaken fun b h _ => Nat.le_trans h2.size h

set_option maxRecDepth 20000 in
set_option maxHeartbeats 1000000 in
theorem imgK_any (p : Nat) (S : SpaceM) (v : Int) (w : World) (hS : SpaceAt TNode TSp w p S) :
    Calls Try.prog 19 #[.pointer (some ⟨p, 0, none⟩), .int .i64 v] w fun e w' => ∃ r, e = .returned (.tuple #[r, .int .i64 (imageM S v).2]) ∧ Hid (Below w.heap.size w w' ∧ RowK (fun b => w.heap.size ≤ b) w' r (imageM S v).1.length ((imageM S v).1.flatMap refE)) := by
  obtain ⟨lv, ls, hlv, hls, ⟨vv, vs, hp, hrv, hrs⟩, hev, hes⟩ := hS
  obtain ⟨ao, cap, rfl, hvx⟩ := id hrv
  obtain ⟨so, scap, rfl, hsx⟩ := id hrs
  obtain ⟨c0, c1, hpl⟩ := sp_cells hp
  have hat := atsnap_any (.slice so ls.length scap) ls v w hrs
  rcases at_cases hls v with ⟨hn, hi⟩ | ⟨x, hx, hsome, hi, hlt, hid, hae⟩
  · have HM := Lib.hid (show imageM S v = ([], 12) by unfold imageM snapF; rw [← atN_find, hn])
    rw [hi] at hat
    have HA := Lib.hid hat
    clear hlv hls hp hrv hrs hev hes hn hi hat
    go_enter Try.func19, Try.ntmps19
    go_wp2_with (go_at_call 48; refine HA.out.mono ?_; rintro e w1 ⟨rfl, h2⟩)
    go_ret2
    refine ⟨_, by rw [HM.out]; rfl, h2, ?_⟩
    rw [HM.out]
    exact RowK.nil _ _
  · have HM := Lib.hid (show imageM S v = (items x.1.m, 0) by unfold imageM snapF; rw [← atN_find, hsome])
    rw [hi] at hat
    have HA := Lib.hid hat
    obtain ⟨g, rfl, hgl, e0, e1, e2, e3, e4⟩ := snap_cells hrs hx
    have hN := hes x (List.mem_of_getElem? hx)
    obtain ⟨q, hq⟩ := NodeAt.ptr hN
    rw [hq] at e2 hN
    have HK := Lib.hid (And.intro hN (And.intro e2 (And.intro e3 (And.intro c1 (And.intro hgl hpl)))))
    have HG := Lib.hid (fun (W : World) (hb : Below w.heap.size w W) => mappingsK_any (cnt x.1.m : Int) (.pointer q) x.1.m W (NodeAt.below hb HK.out.1))
    have hlen : ls.length ≤ 9223372036854775807 := by
      obtain ⟨_, _, e, h2, h3, _⟩ := hrs
      unfold maxLen at h3; simp only [Value.slice.injEq] at e; omega
    generalize atE ls v = i at *
    clear hlv hls hp hrv hrs hev hes hsome hi hat hN hq hid hae hx hvx hsx
    go_enter Try.func19, Try.ntmps19
    go_wp2_with (first
      | (go_at_call 48; refine HA.out.mono ?_; rintro e w1 ⟨rfl, h2⟩; clear e0 e1 e2 e3 e4 c0 c1; have e2 := (h2.cell (p := ⟨g, i * 5 + 2, none⟩) HK.out.2.2.2.2.1).trans HK.out.2.1; have e3 := (h2.cell (p := ⟨g, i * 5 + 3, none⟩) HK.out.2.2.2.2.1).trans HK.out.2.2.1; have c1 := (h2.cell (p := ⟨p, 1, none⟩) HK.out.2.2.2.2.2).trans HK.out.2.2.2.1)
      | (go_at_call 47; refine (HG.out _ h2).mono ?_; rintro e w2 ⟨r, rfl, h3⟩))
    go_ret2
    refine ⟨_, by rw [HM.out]; rfl, h2.trans (h3.out.1.mono h2.size), ?_⟩
    rw [HM.out]
    exact h3.out.2.weaken fun b h _ => Nat.le_trans h2.size h

abbrev TC : TypeId := 69
theorem info_TC : (Try.prog.info? TC).map (fun i => (i.zero, i.size, i.bytes)) = some (some (.agg #[.int .i64 0, .int .i64 0, .int .i64 0, .slice none 0 0]), 4, 48) := by kernel_rfl
/-- The contents so far. -/
structure LcOwn (w : World) (v : Value) (k : Nat) (l : List ElM) (wr : World) : Prop where
  bl : Below w.heap.size w wr
  own : Sat wr (ownAt TC 4 v k (l.flatMap rpE) * emp)
  ge : ∀ g, v.ownBlock = some g → w.heap.size ≤ g
  mr : ∀ x ∈ l, MapRow (fun b => v.ownBlock ≠ some b) wr x
structure LcSt (w : World) (L : List PartM) (v i : Value) (wr : World) : Prop where
  st : ∃ (k : Nat) (l : List ElM), k ≤ L.length ∧ i = .int .i64 (k : Int) ∧ l.map Prod.fst = L.take k ∧ LcOwn w v k l wr
theorem LcOwn.ref {w wr : World} {v : Value} {k : Nat} {l : List ElM} {L : List PartM} (h : LcOwn w v k l wr) (hl : l.map Prod.fst = L) (hk : l.length = k) : RefL (fun _ => True) wr v L :=
  ⟨l, hl, by rw [hk]; exact RowsAt.k (RowsAt.own h.own (by omega)), fun x hx => (h.mr x hx).weaken fun _ _ _ => trivial⟩
theorem lc_start (w : World) : LcOwn w (.slice none 0 0) 0 [] w := ⟨Below.refl _ _, ownAt_nil.2 ⟨_, rfl, fun _ _ h => by cases h⟩, fun g hg => by simp [Value.ownBlock] at hg, fun x hx => absurd hx (by simp)⟩

theorem find_at {l : List PartM} {a : Int} (h : Incr l a) {k : Nat} {x : PartM} (hx : l[k]? = some x) : l.find? (fun p => p.id == x.id) = some x := by
  induction l generalizing a k with
  | nil => simp at hx
  | cons p r ih =>
    cases k with
    | zero => simp only [List.getElem?_cons_zero, Option.some.injEq] at hx
              subst hx; simp
    | succ k =>
      have hx' : r[k]? = some x := by simpa using hx
      have hle := h.2.le x (List.mem_of_getElem? hx')
      rw [List.find?_cons, show (p.id == x.id) = false from by simp; omega]
      exact ih h.2 hx'
theorem contM_at {S : SpaceM} (h : S.WF) {k : Nat} {x : PartM} (hx : S.vols[k]? = some x) : contM S x.id = (items x.m, 0) := by
  have e : volF S x.id = some x := by
    unfold volF
    exact find_at h.vols hx
  unfold contM; rw [e]
theorem imageM_at {S : SpaceM} (h : S.WF) {k : Nat} {x : PartM} (hx : S.snaps[k]? = some x) : imageM S x.id = (items x.m, 0) := by
  have e : snapF S x.id = some x := by
    unfold snapF
    exact find_at h.snaps hx
  unfold imageM; rw [e]

set_option maxRecDepth 20000 in
set_option maxHeartbeats 4000000 in
theorem lawcont_any (p : Nat) (S : SpaceM) (w : World) (hS : SpaceAt TNode TSp w p S) (hwf : S.WF) (hsrc : SrcOk S) :
    Calls Try.prog 24 #[.pointer (some ⟨p, 0, none⟩)] w fun e w' => ∃ a b, e = .returned (.tuple #[a, b]) ∧ Hid (Below w.heap.size w w' ∧ RefAt (fun _ => True) w' a b S) := by
  have hvl := hwf.vlen
  have HV := Lib.hid (volsS_any p S w hS hwf)
  have HS := Lib.hid (And.intro hS hsrc)
  have HWF := Lib.hid hwf
  obtain ⟨ti, hti, hz0, hts, hz2⟩ := info_parts info_TC
  have HT := Lib.hid (And.intro hti (And.intro hz0 (And.intro hts hz2)))
  clear hS hwf hsrc hti hz0 hts hz2
  go_enter Try.func24, Try.ntmps24
  go_upto_region 4 with (go_at_call 15; refine HV.out.mono ?_; rintro e W1 ⟨vv, rfl, h1⟩)
  obtain ⟨vo, vc, rfl, _⟩ := id h1.out.2
  have HSP := Lib.hid (HS.out.1.below h1.out.1)
  have HB1 := Lib.hid h1.out.1
  go_wp2
  go_loopw [4, 7] (fun v i wr => LcSt W1 S.vols v i wr) (fun _ i _ => S.vols.length - (intOf i).toNat)
  case atStart => exact ⟨⟨0, [], Nat.zero_le _, rfl, rfl, lc_start W1⟩⟩
  case round =>
    clear HV
    obtain ⟨k, lp, hk, rfl, hlp, hown⟩ := hrel.st
    clear hrel
    obtain ⟨ra, rc, rfl⟩ := ownAt_slice hown.own
    have HO := Lib.hid (And.intro hown hlp)
    have hbw := hown.bl
    clear hown hlp
    by_cases hlt : k < S.vols.length
    · have hltd : decide ((k : Int) < (S.vols.length : Int)) = true := decide_eq_true (by omega)
      have hki : (k : Int) ≤ 256 := by omega
      obtain ⟨x, hx⟩ : ∃ x, S.vols[k]? = some x := ⟨_, List.getElem?_eq_getElem hlt⟩
      obtain ⟨g, rfl, hg, e0, e1, e2⟩ := vi_cells h1.out.2 hx
      have HCELL := Lib.hid (fun (W : World) (hb : Below W1.heap.size W1 W) => (show W.cell? ⟨g, k * 3, none⟩ = some (.int .i64 x.id) ∧ W.cell? ⟨g, k * 3 + 1, none⟩ = some (.int .i64 x.tenant) from ⟨(hb.cell (p := ⟨g, k * 3, none⟩) hg).trans e0, (hb.cell (p := ⟨g, k * 3 + 1, none⟩) hg).trans e1⟩))
      have e0 := (hbw.cell (p := ⟨g, k * 3, none⟩) hg).trans e0
      have hsrc := HS.out.2.1 _ (List.mem_of_getElem? hx)
      have HCT := Lib.hid (contK_any p S x.id wr (HSP.out.below hbw))
      have hM : contM S x.id = (items x.m, 0) := contM_at HWF.out hx
      rw [hM] at HCT
      obtain ⟨xi, xt, xs, xm⟩ := x
      simp only at e0 hsrc HCELL HCT
      obtain ⟨its, hits⟩ : ∃ its, its = items xm := ⟨_, rfl⟩
      rw [← hits] at HCT
      have HX := Lib.hid (And.intro hx (And.intro hits hsrc))
      clear hx hits hM hg e1 e2
      go_upto_region 8 with (go_at_call 18; refine HCT.out.mono ?_; rintro e W2 ⟨rv, rfl, h2⟩)
      obtain ⟨r1, c1, rfl, _⟩ := id h2.out.2
      have HW := Lib.hid (And.intro h2.out.1 h2.out.2)
      have hbw2 := hbw.trans (h2.out.1.mono hbw.size)
      clear h2 HCT e0 hbw
      have hvl : ∀ b, (Value.slice ra k rc).ownBlock = some b → b < wr.heap.size := own_lt HO.out.1.own
      have hown2 := rest_of (own_keep (w2 := W2) HO.out.1.own fun g' hg' => HW.out.1.block g' (hvl g' hg'))
      have hS0 : W2.drew.cell? ⟨g, k * 3, none⟩ = some (.int .i64 xi) ∧ W2.drew.cell? ⟨g, k * 3 + 1, none⟩ = some (.int .i64 xt) := HCELL.out W2 hbw2
      refine reg_begin (fun w' => w'.cell? ⟨g, k * 3, none⟩ = some (.int .i64 xi) ∧ w'.cell? ⟨g, k * 3 + 1, none⟩ = some (.int .i64 xt)) (by kernel_rfl) ?_
      (apply reg_take 0 rfl rfl (by decide +kernel) rfl); (rintro w' ⟨h1, h2⟩; go_simp; rfl); exact hS0; simp only [List.setIfInBounds_toArray, List.set_cons_succ, List.set_cons_zero]
      (apply reg_take 1 rfl rfl (by decide +kernel) rfl); (rintro w' ⟨h1, h2⟩; go_simp; rfl); exact hS0; simp only [List.setIfInBounds_toArray, List.set_cons_succ, List.set_cons_zero]
      (apply reg_take 2 rfl rfl (by decide +kernel) rfl); (rintro w' ⟨h1, h2⟩; go_simp; rfl); exact hS0; simp only [List.setIfInBounds_toArray, List.set_cons_succ, List.set_cons_zero]
      (apply reg_take 3 rfl rfl (by decide +kernel) rfl); (rintro w' ⟨h1, h2⟩; go_simp; rfl); exact hS0; simp only [List.setIfInBounds_toArray, List.set_cons_succ, List.set_cons_zero]
      (apply reg_take 4 rfl rfl (by decide +kernel) rfl); (rintro w' ⟨h1, h2⟩; go_simp; rfl); exact hS0; simp only [List.setIfInBounds_toArray, List.set_cons_succ, List.set_cons_zero]
      (apply reg_take 5 rfl rfl (by decide +kernel) rfl); (rintro w' ⟨h1, h2⟩; go_simp; rfl); exact hS0; simp only [List.setIfInBounds_toArray, List.set_cons_succ, List.set_cons_zero]
      (apply reg_take 6 rfl rfl (by decide +kernel) rfl); (rintro w' ⟨h1, h2⟩; go_simp; rfl); exact hS0; simp only [List.setIfInBounds_toArray, List.set_cons_succ, List.set_cons_zero]
      (apply reg_take 7 rfl rfl (by decide +kernel) rfl); (rintro w' ⟨h1, h2⟩; go_simp; rfl); exact hS0; simp only [List.setIfInBounds_toArray, List.set_cons_succ, List.set_cons_zero]
      (apply reg_take 8 rfl rfl (by decide +kernel) rfl); (rintro w' ⟨h1, h2⟩; go_simp; rfl); exact hS0; simp only [List.setIfInBounds_toArray, List.set_cons_succ, List.set_cons_zero]
      (apply reg_take 9 rfl rfl (by decide +kernel) rfl); (rintro w' ⟨h1, h2⟩; go_simp; rfl); exact hS0; simp only [List.setIfInBounds_toArray, List.set_cons_succ, List.set_cons_zero]
      (apply reg_take 10 rfl rfl (by decide +kernel) rfl); (rintro w' ⟨h1, h2⟩; go_simp; rfl); exact hS0; simp only [List.setIfInBounds_toArray, List.set_cons_succ, List.set_cons_zero]
      (apply reg_take 11 rfl rfl (by decide +kernel) rfl); (rintro w' ⟨h1, h2⟩; go_simp; rfl); exact hS0; simp only [List.setIfInBounds_toArray, List.set_cons_succ, List.set_cons_zero]
      (apply reg_take 12 rfl rfl (by decide +kernel) rfl); (rintro w' ⟨h1, h2⟩; go_simp; rfl); exact hS0; simp only [List.setIfInBounds_toArray, List.set_cons_succ, List.set_cons_zero]
      have hA := hown2.drew.allocKeep (.cells #[.int .i64 xi, .int .i64 xt, .int .i64 0, .slice r1 its.length c1] TC)
      have hS4 : (W2.drew.alloc (.cells #[.int .i64 xi, .int .i64 xt, .int .i64 0, .slice r1 its.length c1] TC)).cell? ⟨g, k * 3, none⟩ = some (.int .i64 xi) ∧ (W2.drew.alloc (.cells #[.int .i64 xi, .int .i64 xt, .int .i64 0, .slice r1 its.length c1] TC)).cell? ⟨g, k * 3 + 1, none⟩ = some (.int .i64 xt) := HCELL.out _ (((hbw2).drew).alloc hbw2.size _)
      refine reg_run 13 (.slice (some ⟨W2.drew.heap.size, 0, none⟩) 1 1) (W2.drew.alloc (.cells #[.int .i64 xi, .int .i64 xt, .int .i64 0, .slice r1 its.length c1] TC)) rfl rfl (by decide +kernel) rfl (by go_simp) (hS4) ?_; simp only [List.setIfInBounds_toArray, List.set_cons_succ, List.set_cons_zero]
      obtain ⟨hti, hz0, hts, hz2⟩ := HT.out
      obtain ⟨v', w5, hr, hsm5, hs5⟩ := run_append_ownAt (P := Try.prog) 63 63 TC ti _ Try.underlying63 hti hz0 (by rw [hts]; rfl) (.slice ra k rc) k (lp.flatMap rpE) (by rw [hts]; exact hA) ⟨W2.drew.heap.size, 0, none⟩ 1 1 [.int .i64 xi, .int .i64 xt, .int .i64 0, .slice r1 its.length c1] (by rw [hts]; rfl)
        (by intro j u hu; rw [Addr.add_mid, cells_at (heap_alloc_new _ _), Nat.zero_add]; simpa using hu) (by simp [Value.oneCell']) (by unfold maxLen; omega) (by rw [hz2]; omega)
      rw [hts] at hs5
      have hrk := rest_keep hs5
      have hsame : Same W1 w5 := (same_below' hbw2).trans ((((Same.refl W2).drew).alloc _).trans hsm5)
      have hw2s := HW.out.1.size
      have hbF : Below W1.heap.size W1 w5 := ⟨hsame.os, hsame.tape, hsame.output, hsame.size, fun k' hk' => by
        have h1 := hbw2.size
        rw [hrk.1 k' (fun h => by have := HO.out.1.ge k' h; omega) (by omega), hbw2.block k' hk']⟩
      have hS6 : w5.cell? ⟨g, k * 3, none⟩ = some (.int .i64 xi) ∧ w5.cell? ⟨g, k * 3 + 1, none⟩ = some (.int .i64 xt) := HCELL.out _ hbF
      refine reg_run 14 (v') (w5) rfl rfl (by decide +kernel) rfl (exec_app27 rfl rfl rfl hr) (hS6) ?_; simp only [List.setIfInBounds_toArray, List.set_cons_succ, List.set_cons_zero]
      obtain ⟨ra', rc', rfl⟩ := ownAt_slice hs5
      (apply reg_take 15 rfl rfl (by decide +kernel) rfl); (rintro w' ⟨h1, h2⟩; go_simp; rfl); exact hS6; simp only [List.setIfInBounds_toArray, List.set_cons_succ, List.set_cons_zero]
      refine reg_done (by decide +kernel) ?_
      have hgF : ∀ g', (Value.slice ra' (k + 1) rc').ownBlock = some g' → W1.heap.size ≤ g' := fun g' hg' => by
        rcases hrk.2 g' hg' with h | h
        · exact HO.out.1.ge g' h
        · have := hbw2.size; omega
      have hstep : ∀ (y : ElM), MapRow (fun b => (Value.slice ra k rc).ownBlock ≠ some b) W2 y → MapRow (fun b => (Value.slice ra' (k + 1) rc').ownBlock ≠ some b) w5 y := fun y hy => by
        have h1 : RowK (fun b => (Value.slice ra k rc).ownBlock ≠ some b ∧ b < W2.heap.size) W2 y.2 (items y.1.m).length ((items y.1.m).flatMap refE) := RowK.weaken hy fun b h1 h2 => ⟨h1, h2⟩
        have h2 := h1.keep (w' := w5) (Nat.le_trans (by simp) hsm5.size) fun b hb _ => hrk.1 b hb.1 hb.2
        refine RowK.weaken h2 fun b hb _ he => ?_
        rcases hrk.2 b he with h | h
        · exact hb.1 h
        · omega
      have hmF : ∀ y ∈ lp ++ [((⟨xi, xt, xs, xm⟩ : PartM), Value.slice r1 its.length c1)], MapRow (fun b => (Value.slice ra' (k + 1) rc').ownBlock ≠ some b) w5 y := by
        intro y hy
        rcases List.mem_append.1 hy with hy | hy
        · exact hstep y (RowK.below (HO.out.1.mr y hy) HW.out.1)
        · obtain rfl : y = _ := List.mem_singleton.1 hy
          refine hstep _ ?_
          unfold MapRow
          simp only
          rw [← HX.out.2.1]
          exact HW.out.2.weaken fun b hb _ he => by have := hvl b he; omega
      have HF := Lib.hid (LcOwn.mk hbF (show Sat w5 (ownAt TC 4 (.slice ra' (k + 1) rc') (k + 1) ((lp ++ [((⟨xi, xt, xs, xm⟩ : PartM), Value.slice r1 its.length c1)]).flatMap rpE) * emp) from by
        rw [star_emp, List.flatMap_append]
        have h9 := hs5.left
        rw [HX.out.2.2]
        exact h9) hgF hmF)
      clear hS0 hS4 hS6 hA hown2 hrk hs5 hsm5 hr hti hz0 hts hz2 hsame hbF hgF hmF hstep hvl hw2s hbw2
      go_wp2
      refine ⟨⟨⟨k + 1, lp ++ [(⟨xi, xt, xs, xm⟩, .slice r1 its.length c1)], by omega, by rw [Int.natCast_add]; rfl, ?_, HF.out⟩⟩, by simp only [intOf]; omega⟩
      rw [List.map_append, HO.out.2, List.take_add_one, HX.out.1]; rfl
    · have hke : k = S.vols.length := by omega
      have hltd : decide ((k : Int) < (S.vols.length : Int)) = false := decide_eq_false (by omega)
      have hfst : lp.map Prod.fst = S.vols := by have := HO.out.2; rwa [hke, List.take_length] at this
      have hlpk : lp.length = k := by rw [hke, ← hfst, List.length_map]
      subst hke
      have HR := Lib.hid (And.intro (LcOwn.ref HO.out.1 hfst hlpk) HO.out.1.bl)
      have hsl := HWF.out.slen
      clear hbw hfst hlpk
      go_upto_region 10 with (go_at_call 16; refine (snapsS_any p S wr (HSP.out.below HR.out.2) HWF.out).mono ?_; rintro e W4 ⟨sv, rfl, h4⟩)
      obtain ⟨so, sc, rfl, _⟩ := id h4.out.2
      have HZ := Lib.hid (And.intro ((HB1.out.trans (HR.out.2.mono HB1.out.size)).trans (h4.out.1.mono (HB1.out.trans (HR.out.2.mono HB1.out.size)).size)) (HR.out.1.below h4.out.1))
      have HSP2 := Lib.hid ((HSP.out.below HR.out.2).below h4.out.1)
      clear HO HR
      go_wp2
      clear hltd hlt hk
      go_loopw [5, 11] (fun v i wr' => LcSt W4 S.snaps v i wr') (fun _ i _ => S.snaps.length - (intOf i).toNat)
      case atStart => exact ⟨⟨0, [], Nat.zero_le _, rfl, rfl, lc_start W4⟩⟩
      case round =>
        obtain ⟨k, lp, hk, rfl, hlp, hown⟩ := hrel.st
        clear hrel
        obtain ⟨ra, rc, rfl⟩ := ownAt_slice hown.own
        have HO := Lib.hid (And.intro hown hlp)
        have hbw := hown.bl
        clear hown hlp
        by_cases hlt : k < S.snaps.length
        · have hltd : decide ((k : Int) < (S.snaps.length : Int)) = true := decide_eq_true (by omega)
          have hki : (k : Int) ≤ 256 := by omega
          obtain ⟨x, hx⟩ : ∃ x, S.snaps[k]? = some x := ⟨_, List.getElem?_eq_getElem hlt⟩
          obtain ⟨g, rfl, hg, e0, e1, e2, e3⟩ := si_cells h4.out.2 hx
          have HCELL := Lib.hid (fun (W : World) (hb : Below W4.heap.size W4 W) => (show W.cell? ⟨g, k * 4, none⟩ = some (.int .i64 x.id) ∧ W.cell? ⟨g, k * 4 + 2, none⟩ = some (.int .i64 x.tenant) ∧ W.cell? ⟨g, k * 4 + 1, none⟩ = some (.int .i64 x.src) from ⟨(hb.cell (p := ⟨g, k * 4, none⟩) hg).trans e0, (hb.cell (p := ⟨g, k * 4 + 2, none⟩) hg).trans e2, (hb.cell (p := ⟨g, k * 4 + 1, none⟩) hg).trans e1⟩))
          have e0 := (hbw.cell (p := ⟨g, k * 4, none⟩) hg).trans e0
          have hsrc := HS.out.2.2 _ (List.mem_of_getElem? hx)
          have HCT := Lib.hid (imgK_any p S x.id wr (HSP2.out.below hbw))
          have hM : imageM S x.id = (items x.m, 0) := imageM_at HWF.out hx
          rw [hM] at HCT
          obtain ⟨xi, xt, xs, xm⟩ := x
          simp only at e0 hsrc HCELL HCT
          obtain ⟨its, hits⟩ : ∃ its, its = items xm := ⟨_, rfl⟩
          rw [← hits] at HCT
          have HX := Lib.hid (And.intro hx (And.intro hits hsrc))
          clear hx hits hM hg e1 e2 e3
          go_upto_region 14 with (go_at_call 19; refine HCT.out.mono ?_; rintro e W2 ⟨rv, rfl, h2⟩)
          obtain ⟨r1, c1, rfl, _⟩ := id h2.out.2
          have HW := Lib.hid (And.intro h2.out.1 h2.out.2)
          have hbw2 := hbw.trans (h2.out.1.mono hbw.size)
          clear h2 HCT e0 hbw
          have hvl : ∀ b, (Value.slice ra k rc).ownBlock = some b → b < wr.heap.size := own_lt HO.out.1.own
          have hown2 := rest_of (own_keep (w2 := W2) HO.out.1.own fun g' hg' => HW.out.1.block g' (hvl g' hg'))
          have hS0 : W2.drew.cell? ⟨g, k * 4, none⟩ = some (.int .i64 xi) ∧ W2.drew.cell? ⟨g, k * 4 + 2, none⟩ = some (.int .i64 xt) ∧ W2.drew.cell? ⟨g, k * 4 + 1, none⟩ = some (.int .i64 xs) := HCELL.out W2 hbw2
          refine reg_begin (fun w' => w'.cell? ⟨g, k * 4, none⟩ = some (.int .i64 xi) ∧ w'.cell? ⟨g, k * 4 + 2, none⟩ = some (.int .i64 xt) ∧ w'.cell? ⟨g, k * 4 + 1, none⟩ = some (.int .i64 xs)) (by kernel_rfl) ?_
          (apply reg_take 0 rfl rfl (by decide +kernel) rfl); (rintro w' ⟨h1, h2, h3⟩; go_simp; rfl); exact hS0; simp only [List.setIfInBounds_toArray, List.set_cons_succ, List.set_cons_zero]
          (apply reg_take 1 rfl rfl (by decide +kernel) rfl); (rintro w' ⟨h1, h2, h3⟩; go_simp; rfl); exact hS0; simp only [List.setIfInBounds_toArray, List.set_cons_succ, List.set_cons_zero]
          (apply reg_take 2 rfl rfl (by decide +kernel) rfl); (rintro w' ⟨h1, h2, h3⟩; go_simp; rfl); exact hS0; simp only [List.setIfInBounds_toArray, List.set_cons_succ, List.set_cons_zero]
          (apply reg_take 3 rfl rfl (by decide +kernel) rfl); (rintro w' ⟨h1, h2, h3⟩; go_simp; rfl); exact hS0; simp only [List.setIfInBounds_toArray, List.set_cons_succ, List.set_cons_zero]
          (apply reg_take 4 rfl rfl (by decide +kernel) rfl); (rintro w' ⟨h1, h2, h3⟩; go_simp; rfl); exact hS0; simp only [List.setIfInBounds_toArray, List.set_cons_succ, List.set_cons_zero]
          (apply reg_take 5 rfl rfl (by decide +kernel) rfl); (rintro w' ⟨h1, h2, h3⟩; go_simp; rfl); exact hS0; simp only [List.setIfInBounds_toArray, List.set_cons_succ, List.set_cons_zero]
          (apply reg_take 6 rfl rfl (by decide +kernel) rfl); (rintro w' ⟨h1, h2, h3⟩; go_simp; rfl); exact hS0; simp only [List.setIfInBounds_toArray, List.set_cons_succ, List.set_cons_zero]
          (apply reg_take 7 rfl rfl (by decide +kernel) rfl); (rintro w' ⟨h1, h2, h3⟩; go_simp; rfl); exact hS0; simp only [List.setIfInBounds_toArray, List.set_cons_succ, List.set_cons_zero]
          (apply reg_take 8 rfl rfl (by decide +kernel) rfl); (rintro w' ⟨h1, h2, h3⟩; go_simp; rfl); exact hS0; simp only [List.setIfInBounds_toArray, List.set_cons_succ, List.set_cons_zero]
          (apply reg_take 9 rfl rfl (by decide +kernel) rfl); (rintro w' ⟨h1, h2, h3⟩; go_simp; rfl); exact hS0; simp only [List.setIfInBounds_toArray, List.set_cons_succ, List.set_cons_zero]
          (apply reg_take 10 rfl rfl (by decide +kernel) rfl); (rintro w' ⟨h1, h2, h3⟩; go_simp; rfl); exact hS0; simp only [List.setIfInBounds_toArray, List.set_cons_succ, List.set_cons_zero]
          (apply reg_take 11 rfl rfl (by decide +kernel) rfl); (rintro w' ⟨h1, h2, h3⟩; go_simp; rfl); exact hS0; simp only [List.setIfInBounds_toArray, List.set_cons_succ, List.set_cons_zero]
          (apply reg_take 12 rfl rfl (by decide +kernel) rfl); (rintro w' ⟨h1, h2, h3⟩; go_simp; rfl); exact hS0; simp only [List.setIfInBounds_toArray, List.set_cons_succ, List.set_cons_zero]
          (apply reg_take 13 rfl rfl (by decide +kernel) rfl); (rintro w' ⟨h1, h2, h3⟩; go_simp; rfl); exact hS0; simp only [List.setIfInBounds_toArray, List.set_cons_succ, List.set_cons_zero]
          (apply reg_take 14 rfl rfl (by decide +kernel) rfl); (rintro w' ⟨h1, h2, h3⟩; go_simp; rfl); exact hS0; simp only [List.setIfInBounds_toArray, List.set_cons_succ, List.set_cons_zero]
          (apply reg_take 15 rfl rfl (by decide +kernel) rfl); (rintro w' ⟨h1, h2, h3⟩; go_simp; rfl); exact hS0; simp only [List.setIfInBounds_toArray, List.set_cons_succ, List.set_cons_zero]
          (apply reg_take 16 rfl rfl (by decide +kernel) rfl); (rintro w' ⟨h1, h2, h3⟩; go_simp; rfl); exact hS0; simp only [List.setIfInBounds_toArray, List.set_cons_succ, List.set_cons_zero]
          (apply reg_take 17 rfl rfl (by decide +kernel) rfl); (rintro w' ⟨h1, h2, h3⟩; go_simp; rfl); exact hS0; simp only [List.setIfInBounds_toArray, List.set_cons_succ, List.set_cons_zero]
          have hA := hown2.drew.allocKeep (.cells #[.int .i64 xi, .int .i64 xt, .int .i64 xs, .slice r1 its.length c1] TC)
          have hS4 : (W2.drew.alloc (.cells #[.int .i64 xi, .int .i64 xt, .int .i64 xs, .slice r1 its.length c1] TC)).cell? ⟨g, k * 4, none⟩ = some (.int .i64 xi) ∧ (W2.drew.alloc (.cells #[.int .i64 xi, .int .i64 xt, .int .i64 xs, .slice r1 its.length c1] TC)).cell? ⟨g, k * 4 + 2, none⟩ = some (.int .i64 xt) ∧ (W2.drew.alloc (.cells #[.int .i64 xi, .int .i64 xt, .int .i64 xs, .slice r1 its.length c1] TC)).cell? ⟨g, k * 4 + 1, none⟩ = some (.int .i64 xs) := HCELL.out _ (((hbw2).drew).alloc hbw2.size _)
          refine reg_run 18 (.slice (some ⟨W2.drew.heap.size, 0, none⟩) 1 1) (W2.drew.alloc (.cells #[.int .i64 xi, .int .i64 xt, .int .i64 xs, .slice r1 its.length c1] TC)) rfl rfl (by decide +kernel) rfl (by go_simp) (hS4) ?_; simp only [List.setIfInBounds_toArray, List.set_cons_succ, List.set_cons_zero]
          obtain ⟨hti, hz0, hts, hz2⟩ := HT.out
          obtain ⟨v', w5, hr, hsm5, hs5⟩ := run_append_ownAt (P := Try.prog) 63 63 TC ti _ Try.underlying63 hti hz0 (by rw [hts]; rfl) (.slice ra k rc) k (lp.flatMap rpE) (by rw [hts]; exact hA) ⟨W2.drew.heap.size, 0, none⟩ 1 1 [.int .i64 xi, .int .i64 xt, .int .i64 xs, .slice r1 its.length c1] (by rw [hts]; rfl)
            (by intro j u hu; rw [Addr.add_mid, cells_at (heap_alloc_new _ _), Nat.zero_add]; simpa using hu) (by simp [Value.oneCell']) (by unfold maxLen; omega) (by rw [hz2]; omega)
          rw [hts] at hs5
          have hrk := rest_keep hs5
          have hsame : Same W4 w5 := (same_below' hbw2).trans ((((Same.refl W2).drew).alloc _).trans hsm5)
          have hw2s := HW.out.1.size
          have hbF : Below W4.heap.size W4 w5 := ⟨hsame.os, hsame.tape, hsame.output, hsame.size, fun k' hk' => by
            have h1 := hbw2.size
            rw [hrk.1 k' (fun h => by have := HO.out.1.ge k' h; omega) (by omega), hbw2.block k' hk']⟩
          have hS6 : w5.cell? ⟨g, k * 4, none⟩ = some (.int .i64 xi) ∧ w5.cell? ⟨g, k * 4 + 2, none⟩ = some (.int .i64 xt) ∧ w5.cell? ⟨g, k * 4 + 1, none⟩ = some (.int .i64 xs) := HCELL.out _ hbF
          refine reg_run 19 (v') (w5) rfl rfl (by decide +kernel) rfl (exec_app27 rfl rfl rfl hr) (hS6) ?_; simp only [List.setIfInBounds_toArray, List.set_cons_succ, List.set_cons_zero]
          obtain ⟨ra', rc', rfl⟩ := ownAt_slice hs5
          (apply reg_take 20 rfl rfl (by decide +kernel) rfl); (rintro w' ⟨h1, h2, h3⟩; go_simp; rfl); exact hS6; simp only [List.setIfInBounds_toArray, List.set_cons_succ, List.set_cons_zero]
          refine reg_done (by decide +kernel) ?_
          have hgF : ∀ g', (Value.slice ra' (k + 1) rc').ownBlock = some g' → W4.heap.size ≤ g' := fun g' hg' => by
            rcases hrk.2 g' hg' with h | h
            · exact HO.out.1.ge g' h
            · have := hbw2.size; omega
          have hstep : ∀ (y : ElM), MapRow (fun b => (Value.slice ra k rc).ownBlock ≠ some b) W2 y → MapRow (fun b => (Value.slice ra' (k + 1) rc').ownBlock ≠ some b) w5 y := fun y hy => by
            have h1 : RowK (fun b => (Value.slice ra k rc).ownBlock ≠ some b ∧ b < W2.heap.size) W2 y.2 (items y.1.m).length ((items y.1.m).flatMap refE) := RowK.weaken hy fun b h1 h2 => ⟨h1, h2⟩
            have h2 := h1.keep (w' := w5) (Nat.le_trans (by simp) hsm5.size) fun b hb _ => hrk.1 b hb.1 hb.2
            refine RowK.weaken h2 fun b hb _ he => ?_
            rcases hrk.2 b he with h | h
            · exact hb.1 h
            · omega
          have hmF : ∀ y ∈ lp ++ [((⟨xi, xt, xs, xm⟩ : PartM), Value.slice r1 its.length c1)], MapRow (fun b => (Value.slice ra' (k + 1) rc').ownBlock ≠ some b) w5 y := by
            intro y hy
            rcases List.mem_append.1 hy with hy | hy
            · exact hstep y (RowK.below (HO.out.1.mr y hy) HW.out.1)
            · obtain rfl : y = _ := List.mem_singleton.1 hy
              refine hstep _ ?_
              unfold MapRow
              simp only
              rw [← HX.out.2.1]
              exact HW.out.2.weaken fun b hb _ he => by have := hvl b he; omega
          have HF := Lib.hid (LcOwn.mk hbF (show Sat w5 (ownAt TC 4 (.slice ra' (k + 1) rc') (k + 1) ((lp ++ [((⟨xi, xt, xs, xm⟩ : PartM), Value.slice r1 its.length c1)]).flatMap rpE) * emp) from by
            rw [star_emp, List.flatMap_append]
            have h9 := hs5.left
            skip
            exact h9) hgF hmF)
          clear hS0 hS4 hS6 hA hown2 hrk hs5 hsm5 hr hti hz0 hts hz2 hsame hbF hgF hmF hstep hvl hw2s hbw2
          go_wp2
          refine ⟨⟨⟨k + 1, lp ++ [(⟨xi, xt, xs, xm⟩, .slice r1 its.length c1)], by omega, by rw [Int.natCast_add]; rfl, ?_, HF.out⟩⟩, by simp only [intOf]; omega⟩
          rw [List.map_append, HO.out.2, List.take_add_one, HX.out.1]; rfl
        · have hke : k = S.snaps.length := by omega
          have hltd : decide ((k : Int) < (S.snaps.length : Int)) = false := decide_eq_false (by omega)
          have hfst : lp.map Prod.fst = S.snaps := by have := HO.out.2; rwa [hke, List.take_length] at this
          have hlpk : lp.length = k := by rw [hke, ← hfst, List.length_map]
          subst hke
          have HR := Lib.hid (And.intro (LcOwn.ref HO.out.1 hfst hlpk) HO.out.1.bl)
          clear hbw hfst hlpk
          go_wp2
          go_ret2
          exact ⟨_, _, rfl, HZ.out.1.trans (HR.out.2.mono HZ.out.1.size), ⟨HZ.out.2.below HR.out.2, HR.out.1⟩⟩
end Go.Proofs.Ytednjhlkhecihaa
