/- volume.free, volume.with, volume.without. -/
import Derived.Test.YtednjhlkhecihaaGreatDoorVk
namespace Go.Proofs.YtednjhlkhecihaaGreatDoor
open Go.RowKit Go.Vol Go.Sl

structure FrSt (w : World) (l : List ElM) (i : Value) (wr : World) : Prop where
  st : ∃ k : Nat, k ≤ l.length ∧ i = .int .i64 k ∧ Below w.heap.size w wr ∧ freeF (l.map Prod.fst) 0 = freeF ((l.drop k).map Prod.fst) k

theorem free_hit {l : List ElM} {k : Nat} {x : ElM} (hx : l[k]? = some x) (h : (x.1.id == (k : Int)) = false) : freeF ((l.drop k).map Prod.fst) k = k := by
  have hlt := (List.getElem?_eq_some_iff.1 hx).1
  rw [List.drop_eq_getElem_cons hlt, (List.getElem?_eq_some_iff.1 hx).2, List.map_cons]
  unfold freeF
  rw [if_neg (by simpa using h)]
theorem free_next {l : List ElM} {k : Nat} {x : ElM} (hx : l[k]? = some x) (h : (x.1.id == (k : Int)) = true) : freeF ((l.drop k).map Prod.fst) k = freeF ((l.drop (k + 1)).map Prod.fst) (k + 1) := by
  have hlt := (List.getElem?_eq_some_iff.1 hx).1
  rw [List.drop_eq_getElem_cons hlt, (List.getElem?_eq_some_iff.1 hx).2, List.map_cons]
  show (if x.1.id = (k : Int) then _ else k) = _
  rw [if_pos (by simpa using h)]
/-- A run of cells set one by one. -/
def setL : List Value → Nat → List Value → List Value
  | l, _, [] => l
  | l, a, x :: r => setL (l.set a x) (a + 1) r
theorem setL_eq : ∀ (xs l : List Value) (a : Nat), a + xs.length ≤ l.length → setL l a xs = l.take a ++ xs ++ l.drop (a + xs.length)
  | [], l, a, _ => by simp [setL]
  | x :: r, l, a, h => by
    simp only [List.length_cons] at h
    unfold setL
    rw [setL_eq r (l.set a x) (a + 1) (by rw [List.length_set]; omega)]
    rw [List.take_set, List.drop_set_of_lt (by omega), List.take_add_one, List.getElem?_eq_getElem (by omega), List.length_cons, show a + 1 + r.length = a + (r.length + 1) by omega]
    simp only [Option.toList_some]
    have hl : (l.take a).length = a := by rw [List.length_take]; omega
    rw [List.set_append_right _ _ (by rw [hl]; exact Nat.le_refl _), hl, Nat.sub_self]
    simp

theorem meth_vol (fuel : Nat) (a b c d : Value) (w : World) : (method (fuel + 1) TVol (.agg #[a, b, c, d]) "solvent/volume.number").run Tryz.prog w = .ok (125, .agg #[a, b, c, d]) w := by kernel_rfl

set_option maxHeartbeats 1000000 in
theorem freevol_any (v : Value) (l : List ElM) (w : World) (hv : RowsAt w v l.length (l.flatMap volE)) (hp : ∀ x ∈ l, PtrV x.2) :
    Calls Tryz.prog 86 #[v] w fun e w' => e = .returned (.int .i64 (free (l.map Prod.fst) : Int)) ∧ Below w.heap.size w w' := by
  obtain ⟨ao, cap, rfl, hcap, hmax, hrow⟩ := hv
  unfold maxLen at hmax
  have HR := Lib.hid hrow
  have HP := Lib.hid hp
  clear hrow hp
  go_enter Tryz.func86, Tryz.ntmps86
  go_wp2
  go_loopw [3, 7] (fun _ i wr => FrSt w l i wr) (fun _ i _ => l.length - (intOf i).toNat)
  case atStart => exact ⟨0, Nat.zero_le _, rfl, Below.refl _ _, rfl⟩
  case round =>
    obtain ⟨k, hk, rfl, hbw, hfr⟩ := hrel.st
    clear hrel
    have HS := Lib.hid (And.intro hbw hfr)
    clear hbw hfr
    by_cases hlt : k < l.length
    case neg =>
      have hke : k = l.length := by omega
      subst hke
      have hltd : decide ((l.length : Int) < (l.length : Int)) = false := decide_eq_false (by omega)
      go_wp2
      go_ret
      refine ⟨?_, HS.out.1⟩
      unfold free
      rw [HS.out.2, List.drop_length]; rfl
    have hltd : decide ((k : Int) < (l.length : Int)) = true := decide_eq_true (by omega)
    obtain ⟨x, hx⟩ : ∃ x, l[k]? = some x := ⟨_, List.getElem?_eq_getElem hlt⟩
    obtain ⟨⟨id, ten, src, m⟩, r⟩ := x
    obtain ⟨q, hq⟩ := HP.out _ (List.mem_of_getElem? hx)
    obtain rfl : r = .pointer q := hq
    obtain ⟨b, rfl, hb, hcell⟩ := HR.out (by omega)
    have hc := fun i u hu => (HS.out.1.cell (p := ⟨b, k * 4 + i, none⟩) hb).trans (hcell _ _ (flat_at volE_len l k _ hx i u hu))
    have c0 := hc 0 _ rfl; have c1 := hc 1 _ rfl; have c2 := hc 2 _ rfl; have c3 := hc 3 _ rfl
    rw [Nat.add_zero] at c0
    simp only at c0 c1 c2 c3
    have HX := Lib.hid hx
    clear hc hcell hx
    go_upto_region 4 with (fail)
    have h0 := (Sat.old wr).alloc (.cells #[.int .i64 id, .int .i64 ten, .pointer q, .int .i64 (cnt m : Int)] TVol)
    have hbw := HS.out.1.alloc HS.out.1.size (.cells #[.int .i64 id, .int .i64 ten, .pointer q, .int .i64 (cnt m : Int)] TVol)
    generalize wr.alloc (.cells #[.int .i64 id, .int .i64 ten, .pointer q, .int .i64 (cnt m : Int)] TVol) = W at h0 hbw ⊢
    generalize wr.heap.size = B at h0 ⊢
    have hcl := cells_at h0.block
    have d0 := hcl 0; have d1 := hcl 1; have d2 := hcl 2; have d3 := hcl 3
    have HB := Lib.hid hbw
    clear hcl h0 hbw c0 c1 c2 c3
    have hm := meth_vol
    have hcf : ∀ args w, (callFunc 125 args).run Tryz.prog w = .ok (.enter 125 args) w := enters_of Tryz.func125 (by kernel_rfl) rfl
    have hnum := number_any (.int .i64 ten) (.pointer q) (.int .i64 (cnt m : Int)) id W
    have HN := Lib.hid hnum
    clear hnum
    cases hz : (id == (k : Int)) with
    | true =>
      have HZ := Lib.hid hz
      have hz2 : (id != (k : Int)) = false := by simp [bne, hz]
      clear hz
      go_wp2_with (go_at_call 125; refine HN.out.mono ?_; rintro e w' ⟨rfl, hb'⟩)
      go_roundw
      case rel => exact ⟨⟨k + 1, hlt, rfl, HB.out.trans (hb'.mono HB.out.size), HS.out.2.trans (free_next HX.out HZ.out)⟩⟩
      case measure => simp only [intOf]; omega
    | false =>
      have HZ := Lib.hid hz
      have hz2 : (id != (k : Int)) = true := by simp [bne, hz]
      clear hz
      go_wp2_with (go_at_call 125; refine HN.out.mono ?_; rintro e w' ⟨rfl, hb'⟩)
      go_ret
      refine ⟨?_, HB.out.trans (hb'.mono HB.out.size)⟩
      unfold free
      rw [HS.out.2, free_hit HX.out HZ.out]; rfl

set_option maxHeartbeats 1000000 in
theorem withoutvol_any (v : Value) (n i : Nat) (L : List Value) (w : World) (hv : RowsAt w v n L) (hl : L.length = n * 4) (h1 : ∀ u ∈ L, u.oneCell' = true) (hn : n ≤ 1000) (hi : i < n) :
    Calls Tryz.prog 56 #[v, .int .i64 (i : Int)] w fun e w' => ∃ v', e = .returned v' ∧ Hid (Below w.heap.size w w' ∧ RowsAt w' v' (n - 1) (L.take (i * 4) ++ L.drop ((i + 1) * 4))) := by
  have HC := Lib.hid (clonevol_any v n L (old w) w hv hl h1 hn (Sat.old w))
  have HD := Lib.hid (fun (v' : Value) (w' : World) h => deletevol_any v' n i L (old w) w' hi hn h h1)
  have hin : (i : Int) ≤ 1000 := by omega
  clear hv hl h1
  go_enter Tryz.func56, Tryz.ntmps56
  go_wp2_with (first
    | (go_at_call 88; refine HC.out.mono ?_; clear HC; rintro e w1 ⟨v1, rfl, h1⟩)
    | (go_at_call 89; refine (HD.out _ _ h1.out.2).mono ?_; rintro e w2 ⟨v2, rfl, h2⟩))
  go_ret
  exact ⟨_, rfl, (h1.out.1.trans h2.out.1).below_of h2.out.2, RowsAt.own h2.out.2 (by omega)⟩

set_option maxHeartbeats 2000000 in
theorem withvol_any (v : Value) (n i : Nat) (L : List Value) (a0 a1 a3 : Int) (q : Option Addr) (w : World) (hv : RowsAt w v n L) (hl : L.length = n * 4) (h1 : ∀ u ∈ L, u.oneCell' = true) (hn : n ≤ 1000) (hi : i < n) :
    Calls Tryz.prog 90 #[v, .int .i64 (i : Int), .agg #[.int .i64 a0, .int .i64 a1, .pointer q, .int .i64 a3]] w fun e w' => ∃ v', e = .returned v' ∧ Hid (Below w.heap.size w w' ∧ RowsAt w' v' n (L.take (i * 4) ++ ([.int .i64 a0, .int .i64 a1, .pointer q, .int .i64 a3] : List Value) ++ L.drop ((i + 1) * 4))) := by
  have hbx := (Below.refl w.heap.size w).alloc (Nat.le_refl _) (.cells #[.int .i64 a0, .int .i64 a1, .pointer q, .int .i64 a3] TVol)
  have HC := Lib.hid (clonevol_any v n L (pts w.heap.size (.cells #[.int .i64 a0, .int .i64 a1, .pointer q, .int .i64 a3] TVol (0, 0)) * old w) (w.alloc (.cells #[.int .i64 a0, .int .i64 a1, .pointer q, .int .i64 a3] TVol)) (hv.below hbx) hl h1 hn ((Sat.old w).alloc _))
  have HS0 := Lib.hid ((Same.refl w).alloc (.cells #[.int .i64 a0, .int .i64 a1, .pointer q, .int .i64 a3] TVol))
  have HL := Lib.hid hl
  clear hv h1 hbx hl
  go_enter Tryz.func90, Tryz.ntmps90
  go_upto_region 2 with (go_at_call 88; refine HC.out.mono ?_; clear HC; rintro e w1 ⟨v1, rfl, h1⟩)
  generalize w.heap.size = B at h1 ⊢
  rcases ownAt_iff.1 h1.out.2 with ⟨_, h0, _⟩ | ⟨g, cap, cur, ⟨rfl, hnc, hcm, hcs, htk, hlen⟩, hs⟩
  · omega
  have hsm := HS0.out.trans h1.out.1
  clear h1 HS0
  have hx := cells_at hs.right.block
  have e0 := hx 0; have e1 := hx 1; have e2 := hx 2; have e3 := hx 3
  have hcur : ∀ j, j < 4 → ∃ u, w1.cell? ⟨g, i * 4 + j, none⟩ = some u := fun j hj => ⟨cur[i * 4 + j]'(by rw [hcs]; omega), by rw [cells_at hs.block, Array.getElem?_eq_getElem]⟩
  obtain ⟨u0, c0⟩ := hcur 0 (by omega); obtain ⟨u1, c1⟩ := hcur 1 (by omega); obtain ⟨u2, c2⟩ := hcur 2 (by omega); obtain ⟨u3, c3⟩ := hcur 3 (by omega)
  rw [Nat.add_zero] at c0
  have hfz := thawed_at hs.block
  have f0 := hfz (i * 4); have f1 := hfz (i * 4 + 1); have f2 := hfz (i * 4 + 2); have f3 := hfz (i * 4 + 3)
  have h4 := (((hs.setCell (i := i * 4) (.int .i64 a0)).setCell (i := i * 4 + 1) (.int .i64 a1)).setCell (i := i * 4 + 2) (.pointer q)).setCell (i := i * 4 + 3) (.int .i64 a3)
  have hs4 := (((hsm.setCell ⟨g, i * 4, none⟩ (.int .i64 a0)).setCell ⟨g, i * 4 + 1, none⟩ (.int .i64 a1)).setCell ⟨g, i * 4 + 2, none⟩ (.pointer q)).setCell ⟨g, i * 4 + 3, none⟩ (.int .i64 a3)
  have HO := Lib.hid (And.intro hs4 h4)
  have HI := Lib.hid (And.intro hcs (And.intro htk (And.intro hlen (And.intro hnc hcm))))
  have HOUT := Lib.hid (show ∀ (W : World) (R : HProp), Sat W (pts g (.cells ((((cur.setIfInBounds (i * 4) (.int .i64 a0)).setIfInBounds (i * 4 + 1) (.int .i64 a1)).setIfInBounds (i * 4 + 2) (.pointer q)).setIfInBounds (i * 4 + 3) (.int .i64 a3)) TVol (0, 0)) * R) → Sat W (ownAt TVol 4 (.slice (some ⟨g, 0, none⟩) n cap) n (L.take (i * 4) ++ ([.int .i64 a0, .int .i64 a1, .pointer q, .int .i64 a3] : List Value) ++ L.drop ((i + 1) * 4)) * R) from by
    intro W R hW
    refine ownAt_iff.2 (.inr ⟨g, cap, _, ⟨rfl, HI.out.2.2.2.1, HI.out.2.2.2.2, ?_, ?_, ?_⟩, hW⟩)
    · simp [HI.out.1]
    · simp only [Array.toList_setIfInBounds]
      have e := setL_eq ([.int .i64 a0, .int .i64 a1, .pointer q, .int .i64 a3] : List Value) cur.toList (i * 4) (by show i * 4 + 4 ≤ cur.toList.length; rw [Array.length_toList, HI.out.1]; omega)
      have e' : (((cur.toList.set (i * 4) (.int .i64 a0)).set (i * 4 + 1) (.int .i64 a1)).set (i * 4 + 2) (.pointer q)).set (i * 4 + 3) (.int .i64 a3) = setL cur.toList (i * 4) ([.int .i64 a0, .int .i64 a1, .pointer q, .int .i64 a3] : List Value) := rfl
      rw [e', e]
      have t1 : cur.toList.take (i * 4) = L.take (i * 4) := by rw [← HI.out.2.1, List.take_take, Nat.min_eq_left (by omega)]
      have t2 : (cur.toList.drop (i * 4 + 4)).take (n * 4 - (i * 4 + 4)) = L.drop ((i + 1) * 4) := by rw [← HI.out.2.1, List.drop_take, show (i + 1) * 4 = i * 4 + 4 by omega]
      rw [t1]
      show List.take (n * 4) (L.take (i * 4) ++ ([.int .i64 a0, .int .i64 a1, .pointer q, .int .i64 a3] : List Value) ++ cur.toList.drop (i * 4 + 4)) = _
      have hl0 : (L.take (i * 4) ++ ([.int .i64 a0, .int .i64 a1, .pointer q, .int .i64 a3] : List Value)).length = i * 4 + 4 := by rw [List.length_append, List.length_take, HI.out.2.2.1]; show _ + 4 = _; omega
      rw [List.take_append, hl0, t2, List.take_of_length_le (by rw [hl0]; omega)]
    · rw [List.length_append, List.length_append, List.length_take, List.length_drop, HI.out.2.2.1]; show _ + 4 + _ = _; omega)
  clear hx hcur hfz hs hsm h4 hs4 hcs htk hlen hcm
  go_wp2
  go_ret
  have hout := HOUT.out _ _ HO.out.2
  exact ⟨_, rfl, HO.out.1.below_of (hout.perm (star_assoc _ _ _).symm), RowsAt.own hout (by omega)⟩

theorem meth_snap (fuel : Nat) (a b c d e : Value) (w : World) : (method (fuel + 1) TSnap (.agg #[a, b, c, d, e]) "solvent/volume.number").run Tryz.prog w = .ok (125, .agg #[a, b, c, d]) w := by kernel_rfl

set_option maxHeartbeats 1000000 in
theorem freesnap_any (v : Value) (l : List ElM) (w : World) (hv : RowsAt w v l.length (l.flatMap snapE)) (hp : ∀ x ∈ l, PtrV x.2) :
    Calls Tryz.prog 65 #[v] w fun e w' => e = .returned (.int .i64 (free (l.map Prod.fst) : Int)) ∧ Below w.heap.size w w' := by
  obtain ⟨ao, cap, rfl, hcap, hmax, hrow⟩ := hv
  unfold maxLen at hmax
  have HR := Lib.hid hrow
  have HP := Lib.hid hp
  clear hrow hp
  go_enter Tryz.func65, Tryz.ntmps65
  go_wp2
  go_loopw [3, 7] (fun _ i wr => FrSt w l i wr) (fun _ i _ => l.length - (intOf i).toNat)
  case atStart => exact ⟨0, Nat.zero_le _, rfl, Below.refl _ _, rfl⟩
  case round =>
    obtain ⟨k, hk, rfl, hbw, hfr⟩ := hrel.st
    clear hrel
    have HS := Lib.hid (And.intro hbw hfr)
    clear hbw hfr
    by_cases hlt : k < l.length
    case neg =>
      have hke : k = l.length := by omega
      subst hke
      have hltd : decide ((l.length : Int) < (l.length : Int)) = false := decide_eq_false (by omega)
      go_wp2
      go_ret
      refine ⟨?_, HS.out.1⟩
      unfold free
      rw [HS.out.2, List.drop_length]; rfl
    have hltd : decide ((k : Int) < (l.length : Int)) = true := decide_eq_true (by omega)
    obtain ⟨x, hx⟩ : ∃ x, l[k]? = some x := ⟨_, List.getElem?_eq_getElem hlt⟩
    obtain ⟨⟨id, ten, src, m⟩, r⟩ := x
    obtain ⟨q, hq⟩ := HP.out _ (List.mem_of_getElem? hx)
    obtain rfl : r = .pointer q := hq
    obtain ⟨b, rfl, hb, hcell⟩ := HR.out (by omega)
    have hc := fun i u hu => (HS.out.1.cell (p := ⟨b, k * 5 + i, none⟩) hb).trans (hcell _ _ (flat_at snapE_len l k _ hx i u hu))
    have c0 := hc 0 _ rfl; have c1 := hc 1 _ rfl; have c2 := hc 2 _ rfl; have c3 := hc 3 _ rfl; have c4 := hc 4 _ rfl
    rw [Nat.add_zero] at c0
    simp only at c0 c1 c2 c3 c4
    have HX := Lib.hid hx
    clear hc hcell hx
    go_upto_region 4 with (fail)
    have h0 := (Sat.old wr).alloc (.cells #[.int .i64 id, .int .i64 ten, .pointer q, .int .i64 (cnt m : Int), .int .i64 src] TSnap)
    have hbw := HS.out.1.alloc HS.out.1.size (.cells #[.int .i64 id, .int .i64 ten, .pointer q, .int .i64 (cnt m : Int), .int .i64 src] TSnap)
    generalize wr.alloc (.cells #[.int .i64 id, .int .i64 ten, .pointer q, .int .i64 (cnt m : Int), .int .i64 src] TSnap) = W at h0 hbw ⊢
    generalize wr.heap.size = B at h0 ⊢
    have hcl := cells_at h0.block
    have d0 := hcl 0; have d1 := hcl 1; have d2 := hcl 2; have d3 := hcl 3; have d4 := hcl 4
    have HB := Lib.hid hbw
    clear hcl h0 hbw c0 c1 c2 c3 c4
    have hm := meth_snap
    have hcf : ∀ args w, (callFunc 125 args).run Tryz.prog w = .ok (.enter 125 args) w := enters_of Tryz.func125 (by kernel_rfl) rfl
    have hnum := number_any (.int .i64 ten) (.pointer q) (.int .i64 (cnt m : Int)) id W
    have HN := Lib.hid hnum
    clear hnum
    cases hz : (id == (k : Int)) with
    | true =>
      have HZ := Lib.hid hz
      have hz2 : (id != (k : Int)) = false := by simp [bne, hz]
      clear hz
      go_wp2_with (go_at_call 125; refine HN.out.mono ?_; rintro e w' ⟨rfl, hb'⟩)
      go_roundw
      case rel => exact ⟨⟨k + 1, hlt, rfl, HB.out.trans (hb'.mono HB.out.size), HS.out.2.trans (free_next HX.out HZ.out)⟩⟩
      case measure => simp only [intOf]; omega
    | false =>
      have HZ := Lib.hid hz
      have hz2 : (id != (k : Int)) = true := by simp [bne, hz]
      clear hz
      go_wp2_with (go_at_call 125; refine HN.out.mono ?_; rintro e w' ⟨rfl, hb'⟩)
      go_ret
      refine ⟨?_, HB.out.trans (hb'.mono HB.out.size)⟩
      unfold free
      rw [HS.out.2, free_hit HX.out HZ.out]; rfl

set_option maxHeartbeats 1000000 in
theorem withoutsnap_any (v : Value) (n i : Nat) (L : List Value) (w : World) (hv : RowsAt w v n L) (hl : L.length = n * 5) (h1 : ∀ u ∈ L, u.oneCell' = true) (hn : n ≤ 1000) (hi : i < n) :
    Calls Tryz.prog 69 #[v, .int .i64 (i : Int)] w fun e w' => ∃ v', e = .returned v' ∧ Hid (Below w.heap.size w w' ∧ RowsAt w' v' (n - 1) (L.take (i * 5) ++ L.drop ((i + 1) * 5))) := by
  have HC := Lib.hid (clonesnap_any v n L (old w) w hv hl h1 hn (Sat.old w))
  have HD := Lib.hid (fun (v' : Value) (w' : World) h => deletesnap_any v' n i L (old w) w' hi hn h h1)
  have hin : (i : Int) ≤ 1000 := by omega
  clear hv hl h1
  go_enter Tryz.func69, Tryz.ntmps69
  go_wp2_with (first
    | (go_at_call 68; refine HC.out.mono ?_; clear HC; rintro e w1 ⟨v1, rfl, h1⟩)
    | (go_at_call 96; refine (HD.out _ _ h1.out.2).mono ?_; rintro e w2 ⟨v2, rfl, h2⟩))
  go_ret
  exact ⟨_, rfl, (h1.out.1.trans h2.out.1).below_of h2.out.2, RowsAt.own h2.out.2 (by omega)⟩

end Go.Proofs.YtednjhlkhecihaaGreatDoor
