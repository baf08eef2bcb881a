/- volume.Space: Get, Look, Delete, Drop, Clone, Snapshot. -/
import Derived.Test.YtednjhlkhecihaaGreatDoorVo
namespace Go.Proofs.YtednjhlkhecihaaGreatDoor
open Go.RowKit Go.Vol Go.Sl

theorem at_cases {l : List ElM} {L : List PartM} (h : l.map Prod.fst = L) (id : Int) : (L[atN L id]? = none ∧ atI l id = -1) ∨
    ∃ x, l[atE l id]? = some x ∧ L[atN L id]? = some x.1 ∧ atI l id = (atE l id : Int) ∧ atE l id < l.length ∧ x.1.id = id ∧ atN L id = atE l id := by
  subst h
  rw [atE_map]
  rcases Nat.lt_or_ge (atE l id) l.length with hlt | hge
  · refine .inr ⟨l[atE l id], List.getElem?_eq_getElem hlt, ?_, ?_, hlt, ?_, rfl⟩
    · rw [List.getElem?_map, List.getElem?_eq_getElem hlt]; rfl
    · unfold atI; rw [if_pos hlt]
    · have := List.findIdx_getElem (w := hlt)
      exact eq_of_beq this
  · refine .inl ⟨?_, ?_⟩
    · rw [List.getElem?_eq_none]; rw [List.length_map]; exact hge
    · unfold atI; rw [if_neg (by omega)]
theorem vol_cells {w : World} {ao : Option Addr} {n cap : Nat} {l : List ElM} {i : Nat} {x : ElM} (h : RowsAt w (.slice ao n cap) l.length (l.flatMap volE)) (hx : l[i]? = some x) : ∃ b : Nat, ao = some ⟨b, 0, none⟩ ∧ b < w.heap.size ∧
    w.cell? ⟨b, i * 4, none⟩ = some (.int .i64 x.1.id) ∧ w.cell? ⟨b, i * 4 + 1, none⟩ = some (.int .i64 x.1.tenant) ∧ w.cell? ⟨b, i * 4 + 2, none⟩ = some x.2 ∧ w.cell? ⟨b, i * 4 + 3, none⟩ = some (.int .i64 (cnt x.1.m : Int)) := by
  obtain ⟨ao', cap', e, _, _, h4⟩ := h
  obtain ⟨b, hb, hlt, hc⟩ := h4 (by have := (List.getElem?_eq_some_iff.1 hx).1; omega)
  simp only [Value.slice.injEq] at e
  refine ⟨b, e.1.trans hb, hlt, ?_, ?_, ?_, ?_⟩
  · have := hc _ _ (flat_at volE_len l i x hx 0 _ rfl); rwa [Nat.add_zero] at this
  · exact hc _ _ (flat_at volE_len l i x hx 1 _ rfl)
  · exact hc _ _ (flat_at volE_len l i x hx 2 _ rfl)
  · exact hc _ _ (flat_at volE_len l i x hx 3 _ rfl)
theorem snap_cells {w : World} {ao : Option Addr} {n cap : Nat} {l : List ElM} {i : Nat} {x : ElM} (h : RowsAt w (.slice ao n cap) l.length (l.flatMap snapE)) (hx : l[i]? = some x) : ∃ b : Nat, ao = some ⟨b, 0, none⟩ ∧ b < w.heap.size ∧
    w.cell? ⟨b, i * 5, none⟩ = some (.int .i64 x.1.id) ∧ w.cell? ⟨b, i * 5 + 1, none⟩ = some (.int .i64 x.1.tenant) ∧ w.cell? ⟨b, i * 5 + 2, none⟩ = some x.2 ∧ w.cell? ⟨b, i * 5 + 3, none⟩ = some (.int .i64 (cnt x.1.m : Int)) ∧ w.cell? ⟨b, i * 5 + 4, none⟩ = some (.int .i64 x.1.src) := by
  obtain ⟨ao', cap', e, _, _, h4⟩ := h
  obtain ⟨b, hb, hlt, hc⟩ := h4 (by have := (List.getElem?_eq_some_iff.1 hx).1; omega)
  simp only [Value.slice.injEq] at e
  refine ⟨b, e.1.trans hb, hlt, ?_, ?_, ?_, ?_, ?_⟩
  · have := hc _ _ (flat_at snapE_len l i x hx 0 _ rfl); rwa [Nat.add_zero] at this
  · exact hc _ _ (flat_at snapE_len l i x hx 1 _ rfl)
  · exact hc _ _ (flat_at snapE_len l i x hx 2 _ rfl)
  · exact hc _ _ (flat_at snapE_len l i x hx 3 _ rfl)
  · exact hc _ _ (flat_at snapE_len l i x hx 4 _ rfl)
theorem ElsAt.erase {T : TypeId} {w : World} {l : List ElM} {i : Nat} (h : ElsAt T w l) : ElsAt T w (l.eraseIdx i) := fun y hy => h y (List.mem_of_mem_eraseIdx hy)
theorem eraseIdx_map_fst {l : List ElM} {i : Nat} : (l.eraseIdx i).map Prod.fst = (l.map Prod.fst).eraseIdx i := by
  induction l generalizing i with
  | nil => simp
  | cons y r ih =>
    cases i with
    | zero => simp
    | succ i => simp [ih]

set_option maxHeartbeats 1000000 in
theorem get_any (r : Value) (m : MapM) (b : Int) (w : World) (hr : NodeAt TNode w 2 r m) :
    Calls Tryz.prog 47 #[.agg #[r, .int .i64 (cnt m : Int)], .int .i64 b] w fun e w' => e = .returned (.tuple #[.int .i64 (SpaceM.getM m b).1, .int .i64 (SpaceM.getM m b).2]) ∧ Below w.heap.size w w' := by
  obtain ⟨q, rfl⟩ := NodeAt.ptr hr
  have hb0 := (Below.refl w.heap.size w).alloc (Nat.le_refl _) (.cells #[.pointer q, .int .i64 (cnt m : Int)] TTree)
  have HBK := Lib.hid (blockOK_any b (w.alloc (.cells #[.pointer q, .int .i64 (cnt m : Int)] TTree)))
  have HB0 := Lib.hid hb0
  cases hb : blkB b with
  | false =>
    rw [hb] at HBK
    have HM := Lib.hid (show SpaceM.getM m b = (0, 1) by unfold SpaceM.getM; rw [if_pos hb])
    clear hb hb0 hr
    go_enter Tryz.func47, Tryz.ntmps47
    go_wp2_with (go_at_call 60; refine HBK.out.mono ?_; rintro e w' ⟨rfl, rfl⟩)
    go_ret2
    exact ⟨by rw [HM.out]; rfl, HB0.out⟩
  | true =>
    rw [hb] at HBK
    obtain ⟨h1, h2⟩ := SpaceM.blkB_iff.1 hb
    obtain ⟨k, rfl⟩ := Int.eq_ofNat_of_zero_le h1
    have hg := tget_any (.pointer q) (.int .i64 (cnt m : Int)) m k (by omega) (w.alloc (.cells #[.pointer q, .int .i64 (cnt m : Int)] TTree)) (NodeAt.below hb0 hr)
    have HG := Lib.hid hg
    have hk1 : m k = none → SpaceM.getM m (k : Int) = (0, 12) := fun h => by unfold SpaceM.getM; rw [if_neg (by simp [hb]), Int.toNat_natCast, h]
    have hk2 : ∀ c, m k = some c → SpaceM.getM m (k : Int) = (c, 0) := fun c h => by unfold SpaceM.getM; rw [if_neg (by simp [hb]), Int.toNat_natCast, h]
    cases hmk : m k with
    | none =>
      rw [hmk] at HG
      have HM := Lib.hid (hk1 hmk)
      clear hb hb0 hr hg hk1 hk2 h1 h2 hmk
      go_enter Tryz.func47, Tryz.ntmps47
      go_wp2_with (first
        | (go_at_call 60; refine HBK.out.mono ?_; rintro e w' ⟨rfl, rfl⟩)
        | (go_at_call 81; refine HG.out.mono ?_; rintro e w1 ⟨rfl, h2⟩))
      go_ret2
      exact ⟨by rw [HM.out]; rfl, HB0.out.trans (h2.mono HB0.out.size)⟩
    | some c =>
      rw [hmk] at HG
      have HM := Lib.hid (hk2 c hmk)
      clear hb hb0 hr hg hk1 hk2 h1 h2 hmk
      go_enter Tryz.func47, Tryz.ntmps47
      go_wp2_with (first
        | (go_at_call 60; refine HBK.out.mono ?_; rintro e w' ⟨rfl, rfl⟩)
        | (go_at_call 81; refine HG.out.mono ?_; rintro e w1 ⟨rfl, h2⟩))
      go_ret2
      exact ⟨by rw [HM.out]; rfl, HB0.out.trans (h2.mono HB0.out.size)⟩

set_option maxHeartbeats 1000000 in
theorem getS_any (p : Nat) (S : SpaceM) (v b : Int) (w : World) (hS : SpaceAt TNode TSp w p S) :
    Calls Tryz.prog 9 #[.pointer (some ⟨p, 0, none⟩), .int .i64 v, .int .i64 b] w fun e w' => e = .returned (.tuple #[.int .i64 (S.get v b).1, .int .i64 (S.get v b).2]) ∧ Below w.heap.size w w' := by
  obtain ⟨lv, ls, hlv, hls, ⟨vv, vs, hp, hrv, hrs⟩, hev, hes⟩ := hS
  obtain ⟨ao, cap, rfl, hvx⟩ := id hrv
  obtain ⟨so, scap, rfl, hsx⟩ := id hrs
  obtain ⟨c0, c1, hpl⟩ := sp_cells hp
  have hat := atvol_any (.slice ao lv.length cap) lv v w hrv
  rcases at_cases hlv v with ⟨hn, hi⟩ | ⟨x, hx, hsome, hi, hlt, hid, hae⟩
  · have HM := Lib.hid (show S.get v b = (0, 12) by unfold SpaceM.get; rw [hn])
    rw [hi] at hat
    have HA := Lib.hid hat
    clear hlv hls hp hrv hrs hev hes hn hi hat
    go_enter Tryz.func9, Tryz.ntmps9
    go_wp2_with (go_at_call 46; refine HA.out.mono ?_; rintro e w1 ⟨rfl, h2⟩)
    go_ret2
    exact ⟨by rw [HM.out]; rfl, h2⟩
  · have HM := Lib.hid (show S.get v b = SpaceM.getM x.1.m b by unfold SpaceM.get; rw [hsome])
    rw [hi] at hat
    have HA := Lib.hid hat
    obtain ⟨g, rfl, hgl, e0, e1, e2, e3⟩ := vol_cells hrv hx
    have hN := hev x (List.mem_of_getElem? hx)
    obtain ⟨q, hq⟩ := NodeAt.ptr hN
    rw [hq] at e2 hN
    have HK := Lib.hid (And.intro hN (And.intro e2 (And.intro e3 (And.intro c0 (And.intro hgl hpl)))))
    have hG := fun (W : World) (hb : Below w.heap.size w W) => get_any (.pointer q) x.1.m b W (NodeAt.below hb HK.out.1)
    have HG := Lib.hid hG
    have hlen : lv.length ≤ 9223372036854775807 := by
      obtain ⟨_, _, e, h2, h3, _⟩ := hrv
      unfold maxLen at h3; simp only [Value.slice.injEq] at e; omega
    generalize atE lv v = i at *
    clear hlv hls hp hrv hrs hev hes hsome hi hat hG hN hq hid hae hx hvx hsx
    go_enter Tryz.func9, Tryz.ntmps9
    go_wp2_with (first
      | (go_at_call 46; refine HA.out.mono ?_; rintro e w1 ⟨rfl, h2⟩; clear e0 e1 e2 e3 c0 c1; have e2 := (h2.cell (p := ⟨g, i * 4 + 2, none⟩) HK.out.2.2.2.2.1).trans HK.out.2.1; have e3 := (h2.cell (p := ⟨g, i * 4 + 3, none⟩) HK.out.2.2.2.2.1).trans HK.out.2.2.1; have c0 := (h2.cell (p := ⟨p, 0, none⟩) HK.out.2.2.2.2.2).trans HK.out.2.2.2.1)
      | (go_at_call 47; refine (HG.out _ h2).mono ?_; rintro e w2 ⟨rfl, h3⟩))
    go_ret2
    exact ⟨by rw [HM.out]; rfl, h2.trans (h3.mono h2.size)⟩

set_option maxHeartbeats 1000000 in
theorem lookS_any (p : Nat) (S : SpaceM) (v b : Int) (w : World) (hS : SpaceAt TNode TSp w p S) :
    Calls Tryz.prog 11 #[.pointer (some ⟨p, 0, none⟩), .int .i64 v, .int .i64 b] w fun e w' => e = .returned (.tuple #[.int .i64 (S.look v b).1, .int .i64 (S.look v b).2]) ∧ Below w.heap.size w w' := by
  obtain ⟨lv, ls, hlv, hls, ⟨vv, vs, hp, hrv, hrs⟩, hev, hes⟩ := hS
  obtain ⟨ao, cap, rfl, hvx⟩ := id hrv
  obtain ⟨so, scap, rfl, hsx⟩ := id hrs
  obtain ⟨c0, c1, hpl⟩ := sp_cells hp
  have hat := atsnap_any (.slice so ls.length scap) ls v w hrs
  rcases at_cases hls v with ⟨hn, hi⟩ | ⟨x, hx, hsome, hi, hlt, hid, hae⟩
  · have HM := Lib.hid (show S.look v b = (0, 12) by unfold SpaceM.look; rw [hn])
    rw [hi] at hat
    have HA := Lib.hid hat
    clear hlv hls hp hrv hrs hev hes hn hi hat
    go_enter Tryz.func11, Tryz.ntmps11
    go_wp2_with (go_at_call 49; refine HA.out.mono ?_; rintro e w1 ⟨rfl, h2⟩)
    go_ret2
    exact ⟨by rw [HM.out]; rfl, h2⟩
  · have HM := Lib.hid (show S.look v b = SpaceM.getM x.1.m b by unfold SpaceM.look; rw [hsome])
    rw [hi] at hat
    have HA := Lib.hid hat
    obtain ⟨g, rfl, hgl, e0, e1, e2, e3, e4⟩ := snap_cells hrs hx
    have hN := hes x (List.mem_of_getElem? hx)
    obtain ⟨q, hq⟩ := NodeAt.ptr hN
    rw [hq] at e2 hN
    have HK := Lib.hid (And.intro hN (And.intro e2 (And.intro e3 (And.intro c1 (And.intro hgl hpl)))))
    have hG := fun (W : World) (hb : Below w.heap.size w W) => get_any (.pointer q) x.1.m b W (NodeAt.below hb HK.out.1)
    have HG := Lib.hid hG
    have hlen : ls.length ≤ 9223372036854775807 := by
      obtain ⟨_, _, e, h2, h3, _⟩ := hrs
      unfold maxLen at h3; simp only [Value.slice.injEq] at e; omega
    generalize atE ls v = i at *
    clear hlv hls hp hrv hrs hev hes hsome hi hat hG hN hq hid hae hx hvx hsx
    go_enter Tryz.func11, Tryz.ntmps11
    go_wp2_with (first
      | (go_at_call 49; refine HA.out.mono ?_; rintro e w1 ⟨rfl, h2⟩; clear e0 e1 e2 e3 e4 c0 c1; have e2 := (h2.cell (p := ⟨g, i * 5 + 2, none⟩) HK.out.2.2.2.2.1).trans HK.out.2.1; have e3 := (h2.cell (p := ⟨g, i * 5 + 3, none⟩) HK.out.2.2.2.2.1).trans HK.out.2.2.1; have c1 := (h2.cell (p := ⟨p, 1, none⟩) HK.out.2.2.2.2.2).trans HK.out.2.2.2.1)
      | (go_at_call 47; refine (HG.out _ h2).mono ?_; rintro e w2 ⟨rfl, h3⟩))
    go_ret2
    exact ⟨by rw [HM.out]; rfl, h2.trans (h3.mono h2.size)⟩

set_option maxHeartbeats 2000000 in
theorem deleteS_any (p : Nat) (S : SpaceM) (v : Int) (w : World) (hS : SpaceAt TNode TSp w p S) (hwf : S.WF) :
    Calls Tryz.prog 20 #[.pointer (some ⟨p, 0, none⟩), .int .i64 v] w (Res2 w (S.delete v)) := by
  obtain ⟨lv, ls, hlv, hls, ⟨vv, vs, hp, hrv, hrs⟩, hev, hes⟩ := hS
  obtain ⟨ao, cap, rfl, hvx⟩ := id hrv
  obtain ⟨so, scap, rfl, hsx⟩ := id hrs
  obtain ⟨c0, c1, hpl⟩ := sp_cells hp
  have hlen : S.vols.length = lv.length := by rw [← hlv, List.length_map]
  have hn64 : lv.length ≤ 64 := by rw [← hlen]; exact hwf.vlen
  have hat := atvol_any (.slice ao lv.length cap) lv v w hrv
  rcases at_cases hlv v with ⟨hn, hi⟩ | ⟨x, hx, hsome, hi, hlt, hid, hae⟩
  · have HM := Lib.hid (show S.delete v = ⟨none, 0, 12⟩ by unfold SpaceM.delete; rw [hn])
    rw [hi] at hat
    have HA := Lib.hid hat
    clear hlv hls hp hrv hrs hev hes hn hi hat hlen
    go_enter Tryz.func20, Tryz.ntmps20
    go_wp2_with (go_at_call 46; refine HA.out.mono ?_; rintro e w1 ⟨rfl, h2⟩)
    refine bodyPost_ret (v := .tuple #[.pointer none, .int .i64 12]) (by simp [results, Tryz.results20, go_sem]) rfl ?_
    rw [HM.out]
    exact ⟨_, rfl, h2, rfl⟩
  · have HM := Lib.hid (show S.delete v = ⟨some { S with vols := S.vols.eraseIdx (atE lv v) }, 0, 0⟩ by unfold SpaceM.delete; rw [hsome, hae])
    rw [hi] at hat
    have HA := Lib.hid hat
    have HQ := Lib.hid (And.intro hlv (And.intro hls (And.intro hrv (And.intro hrs (And.intro hev hes)))))
    have HP := Lib.hid (And.intro hp (And.intro hpl c0))
    generalize atE lv v = i at *
    have hwo := fun (W : World) (hb : Below w.heap.size w W) => withoutvol_any (.slice ao lv.length cap) lv.length i (lv.flatMap volE) W (hrv.below hb) (flat_len volE_len lv) (ElsAt.one4 hev) (by omega) hlt
    have HW := Lib.hid hwo
    have hva := fun (W : World) (a : Option Addr) (c : Nat) (hb : Below w.heap.size w W) => volumesAre_any p (.slice ao lv.length cap) (.slice so ls.length scap) a (lv.length - 1) c W rfl ⟨_, _, _, rfl⟩ (by rw [hb.block p hpl]; exact hp)
    have HVA := Lib.hid hva
    have hi64 : (i : Int) ≤ 1000 := by omega
    have HLT := Lib.hid hlt
    clear hlv hls hp hrv hrs hev hes hsome hi hat hid hae hx hvx hsx hwo hva hlen
    go_enter Tryz.func20, Tryz.ntmps20
    go_wp2_with (first
      | (go_at_call 46; refine HA.out.mono ?_; rintro e w1 ⟨rfl, h2⟩; clear c0 c1; have c0 := (h2.cell (p := ⟨p, 0, none⟩) HP.out.2.1).trans HP.out.2.2)
      | (go_at_call 56; refine (HW.out _ h2).mono ?_; rintro e w2 ⟨v3, rfl, h3⟩; obtain ⟨a3, c3, rfl, hx3⟩ := id h3.out.2; clear hx3; have H3 := Lib.hid (And.intro (h2.trans (h3.out.1.mono h2.size)) h3.out.2); clear h3)
      | (go_at_call 55; refine (HVA.out _ a3 c3 H3.out.1).mono ?_; rintro e _ ⟨rfl, rfl⟩))
    refine bodyPost_ret (v := .tuple #[.pointer (some ⟨w2.heap.size, 0, none⟩), .int .i64 0]) (by simp [results, Tryz.results20, go_sem]) rfl ?_
    rw [HM.out]
    have hbw := H3.out.1.alloc H3.out.1.size (.cells #[.slice a3 (lv.length - 1) c3, .slice so ls.length scap] TSp)
    refine ⟨_, rfl, hbw, w2.heap.size, rfl, ⟨lv.eraseIdx i, ls, by rw [eraseIdx_map_fst, HQ.out.1], HQ.out.2.1, SpAt.mk' (heap_alloc_new _ _) ?_ (HQ.out.2.2.2.1.below hbw) (ElsAt.erase (HQ.out.2.2.2.2.1.below hbw)) (HQ.out.2.2.2.2.2.below hbw)⟩⟩
    have := H3.out.2.below ((Below.refl w2.heap.size w2).alloc (Nat.le_refl _) (.cells #[.slice a3 (lv.length - 1) c3, .slice so ls.length scap] TSp))
    rw [List.length_eraseIdx_of_lt HLT.out, flat_erase volE_len]
    exact this

set_option maxHeartbeats 2000000 in
theorem dropS_any (p : Nat) (S : SpaceM) (v : Int) (w : World) (hS : SpaceAt TNode TSp w p S) (hwf : S.WF) :
    Calls Tryz.prog 25 #[.pointer (some ⟨p, 0, none⟩), .int .i64 v] w (Res2 w (S.drop v)) := by
  obtain ⟨lv, ls, hlv, hls, ⟨vv, vs, hp, hrv, hrs⟩, hev, hes⟩ := hS
  obtain ⟨ao, cap, rfl, hvx⟩ := id hrv
  obtain ⟨so, scap, rfl, hsx⟩ := id hrs
  obtain ⟨c0, c1, hpl⟩ := sp_cells hp
  have hlen : S.snaps.length = ls.length := by rw [← hls, List.length_map]
  have hn64 : ls.length ≤ 256 := by rw [← hlen]; exact hwf.slen
  have hat := atsnap_any (.slice so ls.length scap) ls v w hrs
  rcases at_cases hls v with ⟨hn, hi⟩ | ⟨x, hx, hsome, hi, hlt, hid, hae⟩
  · have HM := Lib.hid (show S.drop v = ⟨none, 0, 12⟩ by unfold SpaceM.drop; rw [hn])
    rw [hi] at hat
    have HA := Lib.hid hat
    clear hlv hls hp hrv hrs hev hes hn hi hat hlen
    go_enter Tryz.func25, Tryz.ntmps25
    go_wp2_with (go_at_call 49; refine HA.out.mono ?_; rintro e w1 ⟨rfl, h2⟩)
    refine bodyPost_ret (v := .tuple #[.pointer none, .int .i64 12]) (by simp [results, Tryz.results25, go_sem]) rfl ?_
    rw [HM.out]
    exact ⟨_, rfl, h2, rfl⟩
  · have HM := Lib.hid (show S.drop v = ⟨some { S with snaps := S.snaps.eraseIdx (atE ls v) }, 0, 0⟩ by unfold SpaceM.drop; rw [hsome, hae])
    rw [hi] at hat
    have HA := Lib.hid hat
    have HQ := Lib.hid (And.intro hlv (And.intro hls (And.intro hrv (And.intro hrs (And.intro hev hes)))))
    have HP := Lib.hid (And.intro hp (And.intro hpl c1))
    generalize atE ls v = i at *
    have hwo := fun (W : World) (hb : Below w.heap.size w W) => withoutsnap_any (.slice so ls.length scap) ls.length i (ls.flatMap snapE) W (hrs.below hb) (flat_len snapE_len ls) (ElsAt.one5 hes) (by omega) hlt
    have HW := Lib.hid hwo
    have hva := fun (W : World) (a : Option Addr) (c : Nat) (hb : Below w.heap.size w W) => snapshotsAre_any p (.slice ao lv.length cap) (.slice so ls.length scap) a (ls.length - 1) c W rfl ⟨_, _, _, rfl⟩ (by rw [hb.block p hpl]; exact hp)
    have HVA := Lib.hid hva
    have hi64 : (i : Int) ≤ 1000 := by omega
    have HLT := Lib.hid hlt
    clear hlv hls hp hrv hrs hev hes hsome hi hat hid hae hx hvx hsx hwo hva hlen
    go_enter Tryz.func25, Tryz.ntmps25
    go_wp2_with (first
      | (go_at_call 49; refine HA.out.mono ?_; rintro e w1 ⟨rfl, h2⟩; clear c0 c1; have c1 := (h2.cell (p := ⟨p, 1, none⟩) HP.out.2.1).trans HP.out.2.2)
      | (go_at_call 69; refine (HW.out _ h2).mono ?_; rintro e w2 ⟨v3, rfl, h3⟩; obtain ⟨a3, c3, rfl, hx3⟩ := id h3.out.2; clear hx3; have H3 := Lib.hid (And.intro (h2.trans (h3.out.1.mono h2.size)) h3.out.2); clear h3)
      | (go_at_call 66; refine (HVA.out _ a3 c3 H3.out.1).mono ?_; rintro e _ ⟨rfl, rfl⟩))
    refine bodyPost_ret (v := .tuple #[.pointer (some ⟨w2.heap.size, 0, none⟩), .int .i64 0]) (by simp [results, Tryz.results25, go_sem]) rfl ?_
    rw [HM.out]
    have hbw := H3.out.1.alloc H3.out.1.size (.cells #[.slice ao lv.length cap, .slice a3 (ls.length - 1) c3] TSp)
    refine ⟨_, rfl, hbw, w2.heap.size, rfl, ⟨lv, ls.eraseIdx i, HQ.out.1, by rw [eraseIdx_map_fst, HQ.out.2.1], SpAt.mk' (heap_alloc_new _ _) (HQ.out.2.2.1.below hbw) ?_ (HQ.out.2.2.2.2.1.below hbw) (ElsAt.erase (HQ.out.2.2.2.2.2.below hbw))⟩⟩
    have := H3.out.2.below ((Below.refl w2.heap.size w2).alloc (Nat.le_refl _) (.cells #[.slice ao lv.length cap, .slice a3 (ls.length - 1) c3] TSp))
    rw [List.length_eraseIdx_of_lt HLT.out, flat_erase snapE_len]
    exact this

end Go.Proofs.YtednjhlkhecihaaGreatDoor
