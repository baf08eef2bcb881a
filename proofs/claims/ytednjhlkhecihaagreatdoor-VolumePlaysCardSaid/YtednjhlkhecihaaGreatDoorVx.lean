/- volume.at: the place of an id. -/
import Derived.Test.YtednjhlkhecihaaGreatDoorVc
import Derived.Test.YtednjhlkhecihaaGreatDoorVr
import Derived.Shelf.Abstract
namespace Go.Proofs.YtednjhlkhecihaaGreatDoor
open Go.RowKit Go.Vol Go.Sl

abbrev TVol : TypeId := 84
abbrev TSnap : TypeId := 89
abbrev TPart : TypeId := 82

theorem number_any (b c d : Value) (n : Int) (w : World) : Calls Tryz.prog 125 #[.agg #[.int .i64 n, b, c, d]] w fun e w' => e = .returned (.int .i64 n) ∧ Below w.heap.size w w' := by
  go_enter Tryz.func125, Tryz.ntmps125
  go_wp2
  go_ret
  exact ⟨rfl, (Below.refl _ _).alloc (Nat.le_refl _) _⟩
/-- The search among a list's elements. -/
structure IxSt (w : World) (l : List ElM) (id : Int) (i : Value) (wr : World) : Prop where
  st : ∃ k : Nat, k ≤ l.length ∧ i = .int .i64 k ∧ Below w.heap.size w wr ∧ ∀ j x, j < k → l[j]? = some x → (x.1.id == id) = false
theorem atI_hit {l : List ElM} {id : Int} {k : Nat} {x : ElM} (hx : l[k]? = some x) (h : (x.1.id == id) = true) (hn : ∀ j y, j < k → l[j]? = some y → (y.1.id == id) = false) : atI l id = (k : Int) := by
  have hlt := (List.getElem?_eq_some_iff.1 hx).1
  have : atE l id = k := by
    unfold atE
    rw [List.findIdx_eq hlt]
    refine ⟨by rw [(List.getElem?_eq_some_iff.1 hx).2]; exact h, fun j hj => ?_⟩
    exact hn j _ hj (List.getElem?_eq_getElem (by omega))
  unfold atI
  rw [this, if_pos hlt]
theorem atI_miss {l : List ElM} {id : Int} (hn : ∀ j y, j < l.length → l[j]? = some y → (y.1.id == id) = false) : atI l id = -1 := by
  have : atE l id = l.length := by
    unfold atE
    rw [List.findIdx_eq_length]
    intro y hy
    obtain ⟨j, hj⟩ := List.mem_iff_getElem?.1 hy
    exact hn j y (List.getElem?_eq_some_iff.1 hj).1 hj
  unfold atI
  rw [this, if_neg (Nat.lt_irrefl _)]

set_option maxHeartbeats 1000000 in
theorem atvol1_any (n t : Int) (c d : Value) (id : Int) (B : Nat) (w : World) (hB : w.cell? ⟨B, 0, none⟩ = some (.int .i64 id)) (hl : B < w.heap.size) :
    Calls Tryz.prog 80 #[.agg #[.int .i64 n, .int .i64 t, c, d], .pointer (some ⟨B, 0, none⟩)] w fun e w' => e = .returned (.bool (n == id)) ∧ Below w.heap.size w w' := by
  go_enter Tryz.func80, Tryz.ntmps80
  go_upto_region 1 with (fail)
  have h0 := (Sat.old w).alloc (.cells #[.int .i64 n, .int .i64 t, c, d] TVol)
  have hS0 : (w.alloc (.cells #[.int .i64 n, .int .i64 t, c, d] TVol)).drew.cell? ⟨w.heap.size, 0, none⟩ = some (.int .i64 n) ∧ (w.alloc (.cells #[.int .i64 n, .int .i64 t, c, d] TVol)).drew.cell? ⟨w.heap.size, 1, none⟩ = some (.int .i64 t) ∧ (w.alloc (.cells #[.int .i64 n, .int .i64 t, c, d] TVol)).drew.cell? ⟨w.heap.size, 2, none⟩ = some c ∧ (w.alloc (.cells #[.int .i64 n, .int .i64 t, c, d] TVol)).drew.cell? ⟨w.heap.size, 3, none⟩ = some d ∧ (w.alloc (.cells #[.int .i64 n, .int .i64 t, c, d] TVol)).drew.cell? ⟨B, 0, none⟩ = some (.int .i64 id) := by
    refine ⟨cells_at h0.block 0, cells_at h0.block 1, cells_at h0.block 2, cells_at h0.block 3, ?_⟩
    show (w.alloc _).cell? _ = _
    rw [World.cell?_alloc_lt _ _ _ hl]; exact hB
  have hwm := (Below.refl w.heap.size w).alloc (Nat.le_refl _) (.cells #[.int .i64 n, .int .i64 t, c, d] TVol)
  have hsz : w.heap.size < (w.alloc (.cells #[.int .i64 n, .int .i64 t, c, d] TVol)).heap.size := by simp
  generalize w.alloc (.cells #[.int .i64 n, .int .i64 t, c, d] TVol) = W at hS0 hwm hsz ⊢
  refine reg_begin (fun w' => w'.cell? ⟨w.heap.size, 0, none⟩ = some (.int .i64 n) ∧ w'.cell? ⟨w.heap.size, 1, none⟩ = some (.int .i64 t) ∧ w'.cell? ⟨w.heap.size, 2, none⟩ = some c ∧ w'.cell? ⟨w.heap.size, 3, none⟩ = some d ∧ w'.cell? ⟨B, 0, none⟩ = some (.int .i64 id)) (by kernel_rfl) ?_
  (apply reg_take 0 rfl rfl (by decide +kernel) rfl); (rintro w' ⟨h0, h1, h2, h3, h4⟩; go_simp; rfl); exact hS0; simp only [List.setIfInBounds_toArray, List.set_cons_succ, List.set_cons_zero]
  (apply reg_take 1 rfl rfl (by decide +kernel) rfl); (rintro w' ⟨h0, h1, h2, h3, h4⟩; go_simp; rfl); exact hS0; simp only [List.setIfInBounds_toArray, List.set_cons_succ, List.set_cons_zero]
  (apply reg_take 3 rfl rfl (by decide +kernel) rfl); (rintro w' ⟨h0, h1, h2, h3, h4⟩; go_simp; rfl); exact hS0; simp only [List.setIfInBounds_toArray, List.set_cons_succ, List.set_cons_zero]
  refine reg_call 2 rfl rfl (by decide +kernel) rfl (f := 125) (args := #[.agg #[.int .i64 n, .int .i64 t, c, d]]) (R := fun v w' => v = .int .i64 n ∧ Below W.heap.size W w') (by go_simp; kernel_rfl) ((number_any _ _ _ n W.drew).mono fun e w' h => ⟨_, h.1, rfl, ((Below.refl _ W).drew).trans h.2⟩) ?_
  rintro _ w3 ⟨rfl, hcc⟩
  obtain ⟨h0, h1, h2, h3, h4⟩ := hS0
  have hk : ∀ o, w3.cell? ⟨w.heap.size, o, none⟩ = W.drew.cell? ⟨w.heap.size, o, none⟩ := fun o => hcc.cell (p := ⟨w.heap.size, o, none⟩) hsz
  have hkB : w3.cell? ⟨B, 0, none⟩ = W.drew.cell? ⟨B, 0, none⟩ := hcc.cell (p := ⟨B, 0, none⟩) (show B < W.heap.size by omega)
  have hS3 : w3.cell? ⟨w.heap.size, 0, none⟩ = some (.int .i64 n) ∧ w3.cell? ⟨w.heap.size, 1, none⟩ = some (.int .i64 t) ∧ w3.cell? ⟨w.heap.size, 2, none⟩ = some c ∧ w3.cell? ⟨w.heap.size, 3, none⟩ = some d ∧ w3.cell? ⟨B, 0, none⟩ = some (.int .i64 id) := ⟨(hk 0).trans h0, (hk 1).trans h1, (hk 2).trans h2, (hk 3).trans h3, hkB.trans h4⟩
  refine ⟨hS3, ?_⟩
  simp only [List.setIfInBounds_toArray, List.set_cons_succ, List.set_cons_zero]
  clear hk hkB h0 h1 h2 h3 h4
  (apply reg_take 4 rfl rfl (by decide +kernel) rfl); (rintro w' ⟨h0, h1, h2, h3, h4⟩; go_simp; rfl); exact hS3; simp only [List.setIfInBounds_toArray, List.set_cons_succ, List.set_cons_zero]
  (apply reg_take 5 rfl rfl (by decide +kernel) rfl); (rintro w' ⟨h0, h1, h2, h3, h4⟩; go_simp; rfl); exact hS3; simp only [List.setIfInBounds_toArray, List.set_cons_succ, List.set_cons_zero]
  refine reg_done (by decide +kernel) ?_
  go_wp2
  go_ret
  exact ⟨rfl, hwm.trans (hcc.mono hwm.size)⟩

set_option maxHeartbeats 1000000 in
theorem ixvol_any (v : Value) (l : List ElM) (id : Int) (B : Nat) (w : World) (hv : RowsAt w v l.length (l.flatMap volE)) (hB : w.cell? ⟨B, 0, none⟩ = some (.int .i64 id)) (hl : B < w.heap.size) :
    Calls Tryz.prog 79 #[v, .func (.func 80) #[] #[.pointer (some ⟨B, 0, none⟩)]] w fun e w' => e = .returned (.int .i64 (atI l id)) ∧ Below w.heap.size w w' := by
  obtain ⟨ao, cap, rfl, hcap, hmax, hrow⟩ := hv
  unfold maxLen at hmax
  have HR := Lib.hid hrow
  have HB := Lib.hid (And.intro hB hl)
  clear hrow hB hl
  go_enter Tryz.func79, Tryz.ntmps79
  go_wp2
  go_loopw [5, 8] (fun _ i wr => IxSt w l id i wr) (fun _ i _ => l.length - (intOf i).toNat)
  case atStart => exact ⟨0, Nat.zero_le _, rfl, Below.refl _ _, fun j x hj => absurd hj (Nat.not_lt_zero _)⟩
  case round =>
    obtain ⟨k, hk, rfl, hbw, hno⟩ := hrel.st
    clear hrel
    have HS := Lib.hid (And.intro hbw hno)
    clear hbw hno
    by_cases hlt : k < l.length
    case neg =>
      have hke : k = l.length := by omega
      subst hke
      have hltd : decide ((l.length : Int) < (l.length : Int)) = false := decide_eq_false (by omega)
      go_wp2
      go_ret
      exact ⟨by rw [atI_miss HS.out.2]; rfl, HS.out.1⟩
    have hltd : decide ((k : Int) < (l.length : Int)) = true := decide_eq_true (by omega)
    obtain ⟨x, hx⟩ : ∃ x, l[k]? = some x := ⟨_, List.getElem?_eq_getElem hlt⟩
    obtain ⟨b, rfl, hb, hcell⟩ := HR.out (by omega)
    have hc := fun i u hu => (HS.out.1.cell (p := ⟨b, k * 4 + i, none⟩) hb).trans (hcell _ _ (flat_at volE_len l k x hx i u hu))
    have c0 := hc 0 _ rfl; have c1 := hc 1 _ rfl; have c2 := hc 2 _ rfl; have c3 := hc 3 _ rfl
    rw [Nat.add_zero] at c0
    have hcall := fun (w' : World) h1 h2 => atvol1_any x.1.id x.1.tenant x.2 (.int .i64 (cnt x.1.m : Int)) id B w' h1 h2
    have HC := Lib.hid (hcall wr ((HS.out.1.cell (p := ⟨B, 0, none⟩) HB.out.2).trans HB.out.1) (Nat.lt_of_lt_of_le HB.out.2 HS.out.1.size))
    have HX := Lib.hid hx
    have hcf : ∀ args w, (callFunc 80 args).run Tryz.prog w = .ok (.enter 80 args) w := enters_of Tryz.func80 (by kernel_rfl) rfl
    clear hc hcall hx hcell
    cases hq : (x.1.id == id) with
    | true =>
      have HQ := Lib.hid hq
      rw [hq] at HC
      clear hq
      go_wp2_with (go_at_call 80; refine HC.out.mono ?_; rintro e w' ⟨rfl, hb'⟩)
      go_ret
      exact ⟨by rw [atI_hit HX.out HQ.out HS.out.2]; rfl, HS.out.1.trans (hb'.mono HS.out.1.size)⟩
    | false =>
      have HQ := Lib.hid hq
      rw [hq] at HC
      clear hq
      go_wp2_with (go_at_call 80; refine HC.out.mono ?_; rintro e w' ⟨rfl, hb'⟩)
      go_roundw
      case rel => exact ⟨⟨k + 1, hlt, rfl, HS.out.1.trans (hb'.mono HS.out.1.size), fun j y hj hy => by
        by_cases hjk : j = k
        · subst hjk; rw [HX.out] at hy; cases hy; exact HQ.out
        · exact HS.out.2 j y (by omega) hy⟩⟩
      case measure => simp only [intOf]; omega

theorem atvol_any (v : Value) (l : List ElM) (id : Int) (w : World) (hv : RowsAt w v l.length (l.flatMap volE)) :
    Calls Tryz.prog 46 #[v, .int .i64 id] w fun e w' => e = .returned (.int .i64 (atI l id)) ∧ Below w.heap.size w w' := by
  have hb : Below w.heap.size w (w.alloc (.cells #[.int .i64 id] 3)) := (Below.refl _ _).alloc (Nat.le_refl _) _
  have HC := Lib.hid (ixvol_any v l id w.heap.size (w.alloc (.cells #[.int .i64 id] 3)) (hv.below hb) (cells_at (heap_alloc_new _ _) 0) (by simp))
  have HB := Lib.hid hb
  clear hb hv
  go_enter Tryz.func46, Tryz.ntmps46
  go_wp2_with (go_at_call 79; refine HC.out.mono ?_; rintro e w' ⟨rfl, hb'⟩)
  go_ret
  exact ⟨rfl, HB.out.trans (hb'.mono HB.out.size)⟩

set_option maxHeartbeats 1000000 in
theorem atsnap1_any (n t : Int) (c d : Value) (e : Int) (id : Int) (B : Nat) (w : World) (hB : w.cell? ⟨B, 0, none⟩ = some (.int .i64 id)) (hl : B < w.heap.size) :
    Calls Tryz.prog 83 #[.agg #[.int .i64 n, .int .i64 t, c, d, .int .i64 e], .pointer (some ⟨B, 0, none⟩)] w fun e w' => e = .returned (.bool (n == id)) ∧ Below w.heap.size w w' := by
  go_enter Tryz.func83, Tryz.ntmps83
  go_upto_region 1 with (fail)
  have h0 := (Sat.old w).alloc (.cells #[.int .i64 n, .int .i64 t, c, d, .int .i64 e] TSnap)
  have hS0 : (w.alloc (.cells #[.int .i64 n, .int .i64 t, c, d, .int .i64 e] TSnap)).drew.cell? ⟨w.heap.size, 0, none⟩ = some (.int .i64 n) ∧ (w.alloc (.cells #[.int .i64 n, .int .i64 t, c, d, .int .i64 e] TSnap)).drew.cell? ⟨w.heap.size, 1, none⟩ = some (.int .i64 t) ∧ (w.alloc (.cells #[.int .i64 n, .int .i64 t, c, d, .int .i64 e] TSnap)).drew.cell? ⟨w.heap.size, 2, none⟩ = some c ∧ (w.alloc (.cells #[.int .i64 n, .int .i64 t, c, d, .int .i64 e] TSnap)).drew.cell? ⟨w.heap.size, 3, none⟩ = some d ∧ (w.alloc (.cells #[.int .i64 n, .int .i64 t, c, d, .int .i64 e] TSnap)).drew.cell? ⟨w.heap.size, 4, none⟩ = some (.int .i64 e) ∧ (w.alloc (.cells #[.int .i64 n, .int .i64 t, c, d, .int .i64 e] TSnap)).drew.cell? ⟨B, 0, none⟩ = some (.int .i64 id) := by
    refine ⟨cells_at h0.block 0, cells_at h0.block 1, cells_at h0.block 2, cells_at h0.block 3, cells_at h0.block 4, ?_⟩
    show (w.alloc _).cell? _ = _
    rw [World.cell?_alloc_lt _ _ _ hl]; exact hB
  have hwm := (Below.refl w.heap.size w).alloc (Nat.le_refl _) (.cells #[.int .i64 n, .int .i64 t, c, d, .int .i64 e] TSnap)
  have hsz : w.heap.size < (w.alloc (.cells #[.int .i64 n, .int .i64 t, c, d, .int .i64 e] TSnap)).heap.size := by simp
  generalize w.alloc (.cells #[.int .i64 n, .int .i64 t, c, d, .int .i64 e] TSnap) = W at hS0 hwm hsz ⊢
  refine reg_begin (fun w' => w'.cell? ⟨w.heap.size, 0, none⟩ = some (.int .i64 n) ∧ w'.cell? ⟨w.heap.size, 1, none⟩ = some (.int .i64 t) ∧ w'.cell? ⟨w.heap.size, 2, none⟩ = some c ∧ w'.cell? ⟨w.heap.size, 3, none⟩ = some d ∧ w'.cell? ⟨w.heap.size, 4, none⟩ = some (.int .i64 e) ∧ w'.cell? ⟨B, 0, none⟩ = some (.int .i64 id)) (by kernel_rfl) ?_
  (apply reg_take 0 rfl rfl (by decide +kernel) rfl); (rintro w' ⟨h0, h1, h2, h3, h4, h5⟩; go_simp; rfl); exact hS0; simp only [List.setIfInBounds_toArray, List.set_cons_succ, List.set_cons_zero]
  (apply reg_take 1 rfl rfl (by decide +kernel) rfl); (rintro w' ⟨h0, h1, h2, h3, h4, h5⟩; go_simp; rfl); exact hS0; simp only [List.setIfInBounds_toArray, List.set_cons_succ, List.set_cons_zero]
  (apply reg_take 3 rfl rfl (by decide +kernel) rfl); (rintro w' ⟨h0, h1, h2, h3, h4, h5⟩; go_simp; rfl); exact hS0; simp only [List.setIfInBounds_toArray, List.set_cons_succ, List.set_cons_zero]
  refine reg_call 2 rfl rfl (by decide +kernel) rfl (f := 125) (args := #[.agg #[.int .i64 n, .int .i64 t, c, d]]) (R := fun v w' => v = .int .i64 n ∧ Below W.heap.size W w') (by go_simp; kernel_rfl) ((number_any _ _ _ n W.drew).mono fun e w' h => ⟨_, h.1, rfl, ((Below.refl _ W).drew).trans h.2⟩) ?_
  rintro _ w3 ⟨rfl, hcc⟩
  obtain ⟨h0, h1, h2, h3, h4, h5⟩ := hS0
  have hk : ∀ o, w3.cell? ⟨w.heap.size, o, none⟩ = W.drew.cell? ⟨w.heap.size, o, none⟩ := fun o => hcc.cell (p := ⟨w.heap.size, o, none⟩) hsz
  have hkB : w3.cell? ⟨B, 0, none⟩ = W.drew.cell? ⟨B, 0, none⟩ := hcc.cell (p := ⟨B, 0, none⟩) (show B < W.heap.size by omega)
  have hS3 : w3.cell? ⟨w.heap.size, 0, none⟩ = some (.int .i64 n) ∧ w3.cell? ⟨w.heap.size, 1, none⟩ = some (.int .i64 t) ∧ w3.cell? ⟨w.heap.size, 2, none⟩ = some c ∧ w3.cell? ⟨w.heap.size, 3, none⟩ = some d ∧ w3.cell? ⟨w.heap.size, 4, none⟩ = some (.int .i64 e) ∧ w3.cell? ⟨B, 0, none⟩ = some (.int .i64 id) := ⟨(hk 0).trans h0, (hk 1).trans h1, (hk 2).trans h2, (hk 3).trans h3, (hk 4).trans h4, hkB.trans h5⟩
  refine ⟨hS3, ?_⟩
  simp only [List.setIfInBounds_toArray, List.set_cons_succ, List.set_cons_zero]
  clear hk hkB h0 h1 h2 h3 h4 h5
  (apply reg_take 4 rfl rfl (by decide +kernel) rfl); (rintro w' ⟨h0, h1, h2, h3, h4, h5⟩; go_simp; rfl); exact hS3; simp only [List.setIfInBounds_toArray, List.set_cons_succ, List.set_cons_zero]
  (apply reg_take 5 rfl rfl (by decide +kernel) rfl); (rintro w' ⟨h0, h1, h2, h3, h4, h5⟩; go_simp; rfl); exact hS3; simp only [List.setIfInBounds_toArray, List.set_cons_succ, List.set_cons_zero]
  refine reg_done (by decide +kernel) ?_
  go_wp2
  go_ret
  exact ⟨rfl, hwm.trans (hcc.mono hwm.size)⟩

set_option maxHeartbeats 1000000 in
theorem ixsnap_any (v : Value) (l : List ElM) (id : Int) (B : Nat) (w : World) (hv : RowsAt w v l.length (l.flatMap snapE)) (hB : w.cell? ⟨B, 0, none⟩ = some (.int .i64 id)) (hl : B < w.heap.size) :
    Calls Tryz.prog 82 #[v, .func (.func 83) #[] #[.pointer (some ⟨B, 0, none⟩)]] w fun e w' => e = .returned (.int .i64 (atI l id)) ∧ Below w.heap.size w w' := by
  obtain ⟨ao, cap, rfl, hcap, hmax, hrow⟩ := hv
  unfold maxLen at hmax
  have HR := Lib.hid hrow
  have HB := Lib.hid (And.intro hB hl)
  clear hrow hB hl
  go_enter Tryz.func82, Tryz.ntmps82
  go_wp2
  go_loopw [5, 8] (fun _ i wr => IxSt w l id i wr) (fun _ i _ => l.length - (intOf i).toNat)
  case atStart => exact ⟨0, Nat.zero_le _, rfl, Below.refl _ _, fun j x hj => absurd hj (Nat.not_lt_zero _)⟩
  case round =>
    obtain ⟨k, hk, rfl, hbw, hno⟩ := hrel.st
    clear hrel
    have HS := Lib.hid (And.intro hbw hno)
    clear hbw hno
    by_cases hlt : k < l.length
    case neg =>
      have hke : k = l.length := by omega
      subst hke
      have hltd : decide ((l.length : Int) < (l.length : Int)) = false := decide_eq_false (by omega)
      go_wp2
      go_ret
      exact ⟨by rw [atI_miss HS.out.2]; rfl, HS.out.1⟩
    have hltd : decide ((k : Int) < (l.length : Int)) = true := decide_eq_true (by omega)
    obtain ⟨x, hx⟩ : ∃ x, l[k]? = some x := ⟨_, List.getElem?_eq_getElem hlt⟩
    obtain ⟨b, rfl, hb, hcell⟩ := HR.out (by omega)
    have hc := fun i u hu => (HS.out.1.cell (p := ⟨b, k * 5 + i, none⟩) hb).trans (hcell _ _ (flat_at snapE_len l k x hx i u hu))
    have c0 := hc 0 _ rfl; have c1 := hc 1 _ rfl; have c2 := hc 2 _ rfl; have c3 := hc 3 _ rfl; have c4 := hc 4 _ rfl
    rw [Nat.add_zero] at c0
    have hcall := fun (w' : World) h1 h2 => atsnap1_any x.1.id x.1.tenant x.2 (.int .i64 (cnt x.1.m : Int)) x.1.src id B w' h1 h2
    have HC := Lib.hid (hcall wr ((HS.out.1.cell (p := ⟨B, 0, none⟩) HB.out.2).trans HB.out.1) (Nat.lt_of_lt_of_le HB.out.2 HS.out.1.size))
    have HX := Lib.hid hx
    have hcf : ∀ args w, (callFunc 83 args).run Tryz.prog w = .ok (.enter 83 args) w := enters_of Tryz.func83 (by kernel_rfl) rfl
    clear hc hcall hx hcell
    cases hq : (x.1.id == id) with
    | true =>
      have HQ := Lib.hid hq
      rw [hq] at HC
      clear hq
      go_wp2_with (go_at_call 83; refine HC.out.mono ?_; rintro e w' ⟨rfl, hb'⟩)
      go_ret
      exact ⟨by rw [atI_hit HX.out HQ.out HS.out.2]; rfl, HS.out.1.trans (hb'.mono HS.out.1.size)⟩
    | false =>
      have HQ := Lib.hid hq
      rw [hq] at HC
      clear hq
      go_wp2_with (go_at_call 83; refine HC.out.mono ?_; rintro e w' ⟨rfl, hb'⟩)
      go_roundw
      case rel => exact ⟨⟨k + 1, hlt, rfl, HS.out.1.trans (hb'.mono HS.out.1.size), fun j y hj hy => by
        by_cases hjk : j = k
        · subst hjk; rw [HX.out] at hy; cases hy; exact HQ.out
        · exact HS.out.2 j y (by omega) hy⟩⟩
      case measure => simp only [intOf]; omega

theorem atsnap_any (v : Value) (l : List ElM) (id : Int) (w : World) (hv : RowsAt w v l.length (l.flatMap snapE)) :
    Calls Tryz.prog 49 #[v, .int .i64 id] w fun e w' => e = .returned (.int .i64 (atI l id)) ∧ Below w.heap.size w w' := by
  have hb : Below w.heap.size w (w.alloc (.cells #[.int .i64 id] 3)) := (Below.refl _ _).alloc (Nat.le_refl _) _
  have HC := Lib.hid (ixsnap_any v l id w.heap.size (w.alloc (.cells #[.int .i64 id] 3)) (hv.below hb) (cells_at (heap_alloc_new _ _) 0) (by simp))
  have HB := Lib.hid hb
  clear hb hv
  go_enter Tryz.func49, Tryz.ntmps49
  go_wp2_with (go_at_call 82; refine HC.out.mono ?_; rintro e w' ⟨rfl, hb'⟩)
  go_ret
  exact ⟨rfl, HB.out.trans (hb'.mono HB.out.size)⟩

end Go.Proofs.YtednjhlkhecihaaGreatDoor
