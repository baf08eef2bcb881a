/- solventref27.Space: its operations. Printed by uc.py. -/
import Derived.Test.YtednjhlkhecihaaGreatDoorUb
import Derived.Test.YtednjhlkhecihaaGreatDoorVo
namespace Go.Proofs.YtednjhlkhecihaaGreatDoor
open Go.RowKit Go.Vol Go.Sl

theorem same_below {B : Nat} {w w' : World} (h : Below B w w') : Same w w' := ⟨h.os, h.tape, h.output, h.size⟩
theorem boxes_new (w : World) (a b : Value) : Hid (Same w ((w.alloc (.cells #[a, b] TRS)).alloc (.cells #[.slice none 0 0, .slice none 0 0] TRS)) ∧ Sat ((w.alloc (.cells #[a, b] TRS)).alloc (.cells #[.slice none 0 0, .slice none 0 0] TRS)) (pts w.heap.size (.cells #[a, b] TRS (0, 0)) * (pts (w.heap.size + 1) (.cells #[.slice none 0 0, .slice none 0 0] TRS (0, 0)) * old w))) := by
  refine ⟨((Same.refl w).alloc _).alloc _, ?_⟩
  have h := ((Sat.old w).alloc (.cells #[a, b] TRS)).alloc (.cells #[.slice none 0 0, .slice none 0 0] TRS)
  rw [World.size_alloc] at h
  exact h.perm (by ac_rfl)
theorem underRS : (match Tryz.prog.underlying TRS with | some (.struct _) | some (.array _ _) => true | _ => false) = true := by kernel_rfl
theorem load_RS {w : World} {g : Nat} {a b : Value} {t : TypeId} (h : w.heap[g]? = some (.cells #[a, b] t (0, 0))) : (loadVar TRS ⟨g, 0, none⟩).run Tryz.prog w = .ok (.agg #[a, b]) w :=
  run_loadVar_row w g t TRS #[a, b] (0, 0) _ h Tryz.underlying28 rfl (by kernel_rfl)
theorem results_c2 {fn : Func} {p u : Tmp} {g : Nat} {a b x : Value} {t : TypeId} {tmps : Array Value} {w : World} (h : fn.results = #[.cell p TRS, .tmp u]) (hp : tmps.getD p undef = .pointer (some ⟨g, 0, none⟩)) (hu : tmps.getD u undef = x) (hg : w.heap[g]? = some (.cells #[a, b] t (0, 0))) :
    (results fn tmps).run Tryz.prog w = .ok (.tuple #[.agg #[a, b], x]) w := by
  have hp' : tmps[p]?.getD undef = .pointer (some ⟨g, 0, none⟩) := by simpa using hp
  have hu' : tmps[u]?.getD undef = x := by simpa using hu
  simp [results, h, hp', hu', asAddr, load_RS hg]
theorem results_c3 {fn : Func} {p u v : Tmp} {g : Nat} {a b x y : Value} {t : TypeId} {tmps : Array Value} {w : World} (h : fn.results = #[.cell p TRS, .tmp u, .tmp v]) (hp : tmps.getD p undef = .pointer (some ⟨g, 0, none⟩)) (hu : tmps.getD u undef = x) (hv : tmps.getD v undef = y) (hg : w.heap[g]? = some (.cells #[a, b] t (0, 0))) :
    (results fn tmps).run Tryz.prog w = .ok (.tuple #[.agg #[a, b], x, y]) w := by
  have hp' : tmps[p]?.getD undef = .pointer (some ⟨g, 0, none⟩) := by simpa using hp
  have hu' : tmps[u]?.getD undef = x := by simpa using hu
  have hv' : tmps[v]?.getD undef = y := by simpa using hv
  simp [results, h, hp', hu', hv', asAddr, load_RS hg]
/-- What an operation answers. -/
def RSp (ok : Nat → Prop) (w' : World) (vv vs : Value) : Option SpaceM → Prop
  | none => vv = .slice none 0 0 ∧ vs = .slice none 0 0
  | some T => RefAt ok w' vv vs T
def RRes2 (ok : Nat → Prop) (w : World) (R : ResM) (e : Ending) (w' : World) : Prop := ∃ vv vs, e = .returned (.tuple #[.agg #[vv, vs], .int .i64 R.e]) ∧ Hid (Below w.heap.size w w' ∧ RSp (newer ok w) w' vv vs R.sp)
def RRes3 (ok : Nat → Prop) (w : World) (R : ResM) (e : Ending) (w' : World) : Prop := ∃ vv vs, e = .returned (.tuple #[.agg #[vv, vs], .int .i64 R.id, .int .i64 R.e]) ∧ Hid (Below w.heap.size w w' ∧ RSp (newer ok w) w' vv vs R.sp)
theorem two_below {w W : World} {a b c d : Value} {B : Nat} (hs : Same w W) (h : Sat W (pts B (.cells #[a, b] TRS (0, 0)) * (pts (B + 1) (.cells #[c, d] TRS (0, 0)) * old w))) : Below w.heap.size w W := hs.below_of (h.perm (star_assoc _ _ _).symm)
/-- The result's box is written. -/
theorem box_res {w W : World} {a b c d : Value} {B : Nat} (x y : Value) (hs : Same w W) (h : Sat W (pts B (.cells #[a, b] TRS (0, 0)) * (pts (B + 1) (.cells #[c, d] TRS (0, 0)) * old w))) :
    Hid (Same w ((W.setCell ⟨B + 1, 0, none⟩ x).setCell ⟨B + 1, 1, none⟩ y) ∧ Sat ((W.setCell ⟨B + 1, 0, none⟩ x).setCell ⟨B + 1, 1, none⟩ y) (pts B (.cells #[a, b] TRS (0, 0)) * (pts (B + 1) (.cells #[x, y] TRS (0, 0)) * old w))) :=
  ⟨(hs.setCell _ _).setCell _ _, (((h.perm (star_comm3 _ _ _)).setCell (i := 0) x).setCell (i := 1) y).perm (star_comm3 _ _ _)⟩
theorem box_fst {w W : World} {a b c d : Value} {B : Nat} (x : Value) (hs : Same w W) (h : Sat W (pts B (.cells #[a, b] TRS (0, 0)) * (pts (B + 1) (.cells #[c, d] TRS (0, 0)) * old w))) :
    Hid (Same w (W.setCell ⟨B, 0, none⟩ x) ∧ Sat (W.setCell ⟨B, 0, none⟩ x) (pts B (.cells #[x, b] TRS (0, 0)) * (pts (B + 1) (.cells #[c, d] TRS (0, 0)) * old w))) :=
  ⟨hs.setCell _ _, h.setCell (i := 0) x⟩
theorem box_snd {w W : World} {a b c d : Value} {B : Nat} (x : Value) (hs : Same w W) (h : Sat W (pts B (.cells #[a, b] TRS (0, 0)) * (pts (B + 1) (.cells #[c, d] TRS (0, 0)) * old w))) :
    Hid (Same w (W.setCell ⟨B, 1, none⟩ x) ∧ Sat (W.setCell ⟨B, 1, none⟩ x) (pts B (.cells #[a, x] TRS (0, 0)) * (pts (B + 1) (.cells #[c, d] TRS (0, 0)) * old w))) :=
  ⟨hs.setCell _ _, h.setCell (i := 1) x⟩
theorem items_empty : items Vol.empty = [] := itemsF_nil _ _ fun _ _ => rfl
theorem fin_ref {ok : Nat → Prop} {w W W3 Wf : World} {B : Nat} {v : Value} {L : List PartM} (hBB : w.heap.size = B) (hc : B + 1 < W.heap.size) (h : RefL (newer (fun b => ok b ∧ b < w.heap.size) W) W3 v L) (hs : W3.heap.size ≤ Wf.heap.size) (hk : ∀ k, k ≠ B → k ≠ B + 1 → Wf.heap[k]? = W3.heap[k]?) : RefL (newer ok w) Wf v L := by
  subst hBB
  refine (h.keep hs fun b hb _ => ?_).weaken fun b hb _ => ?_
  · unfold newer at hb
    exact hk b (by omega) (by omega)
  · rcases hb with hb | hb
    · exact .inl hb.1
    · exact .inr (by omega)
theorem old_ref {ok : Nat → Prop} {w Wf : World} {v : Value} {L : List PartM} (h : RefL ok w v L) (hb : Below w.heap.size w Wf) : RefL (newer ok w) Wf v L := (h.below hb).weaken fun _ h _ => .inl h
theorem in_ref {ok : Nat → Prop} {w W : World} {v : Value} {L : List PartM} (h : RefL ok w v L) (hb : Below w.heap.size w W) : RefL (fun b => ok b ∧ b < w.heap.size) W v L := (h.weaken fun _ h hl => ⟨h, hl⟩).below hb
theorem in_row {ok : Nat → Prop} {w W : World} {v : Value} {n : Nat} {L : List Value} (h : RowK ok w v n L) (hb : Below w.heap.size w W) : RowK (fun b => ok b ∧ b < w.heap.size) W v n L := (h.weaken fun _ h hl => ⟨h, hl⟩).below hb
/-- A part's box, of which a field was written. -/
theorem part_set (W : World) (a b c d x : Value) (i : Nat) : Below W.heap.size W ((W.alloc (.cells #[a, b, c, d] TP)).setCell ⟨W.heap.size, i, none⟩ x) ∧ ((W.alloc (.cells #[a, b, c, d] TP)).setCell ⟨W.heap.size, i, none⟩ x).heap[W.heap.size]? = some (.cells (#[a, b, c, d].setIfInBounds i x) TP (0, 0)) := by
  exact ⟨((Below.refl _ W).alloc (Nat.le_refl _) _).setCell (p := ⟨W.heap.size, i, none⟩) (Nat.le_refl _) _, (((Sat.old W).alloc (.cells #[a, b, c, d] TP)).setCell (i := i) x).block⟩
theorem part_at {ok : Nat → Prop} {w : World} {va : Option Addr} {n vc k : Nat} {L : List PartM} {p : PartM} (h : RefL ok w (.slice va n vc) L) (hk : L[k]? = some p) : ∃ (g : Nat) (pa : Option Addr) (pc : Nat), va = some ⟨g, 0, none⟩ ∧ g < w.heap.size ∧
    w.cell? ⟨g, k * 4, none⟩ = some (.int .i64 p.id) ∧ w.cell? ⟨g, k * 4 + 1, none⟩ = some (.int .i64 p.tenant) ∧ w.cell? ⟨g, k * 4 + 2, none⟩ = some (.int .i64 p.src) ∧ w.cell? ⟨g, k * 4 + 3, none⟩ = some (.slice pa (items p.m).length pc) ∧ RowK ok w (.slice pa (items p.m).length pc) (items p.m).length ((items p.m).flatMap refE) := by
  obtain ⟨l, hl, hr, hm⟩ := h
  subst hl
  rw [List.getElem?_map] at hk
  obtain ⟨x, hx, rfl⟩ := Option.map_eq_some_iff.1 hk
  obtain ⟨g, e, hg, c0, c1, c2, c3⟩ := rp_cells hr.rows hx
  have hrow := hm x (List.mem_of_getElem? hx)
  obtain ⟨pa, pc, hs⟩ := hrow.slice
  unfold MapRow at hrow
  rw [hs] at c3 hrow
  exact ⟨g, pa, pc, e, hg, c0, c1, c2, c3, hrow⟩

set_option maxRecDepth 20000 in
set_option maxHeartbeats 4000000 in
theorem rcreate_any {ok : Nat → Prop} (vv vs : Value) (S : SpaceM) (t : Int) (w : World) (hS : RefAt ok w vv vs S) (hwf : S.WF) :
    Calls Tryz.prog 28 #[.agg #[vv, vs], .int .i64 t] w (RRes3 ok w (S.create t Vol.empty)) := by
  obtain ⟨va, vc, rfl, hvc, hvm⟩ := hS.v.slice
  obtain ⟨sa, sc, rfl, hsc, hsm⟩ := hS.s.slice
  unfold maxLen at hvm hsm
  have HS := Lib.hid (And.intro hS hwf)
  have hvl := hwf.vlen
  have hsl := hwf.slen
  have H0 : Hid (Same w ((w.alloc (.cells #[.slice va S.vols.length vc, .slice sa S.snaps.length sc] TRS)).alloc (.cells #[.slice none 0 0, .slice none 0 0] TRS)) ∧ Sat ((w.alloc (.cells #[.slice va S.vols.length vc, .slice sa S.snaps.length sc] TRS)).alloc (.cells #[.slice none 0 0, .slice none 0 0] TRS)) (pts w.heap.size (.cells #[.slice va S.vols.length vc, .slice sa S.snaps.length sc] TRS (0, 0)) * (pts (w.heap.size + 1) (.cells #[.slice none 0 0, .slice none 0 0] TRS (0, 0)) * old w))) := boxes_new w _ _
  have HB := Lib.hid ((Below.refl w.heap.size w))
  clear hS hwf
  go_enter Tryz.func28, Tryz.ntmps28
  go_upto_region 1 with (fail)
  replace H1 := H0
  clear H0
  generalize ((w.alloc (.cells #[.slice va S.vols.length vc, .slice sa S.snaps.length sc] TRS)).alloc (.cells #[.slice none 0 0, .slice none 0 0] TRS)) = W1 at H1 ⊢
  generalize hBB : w.heap.size = B at H1 ⊢
  have c0 := cells_at H1.out.2.block 0; have c1 := cells_at H1.out.2.block 1; have d0 := cells_at H1.out.2.right.block 0; have d1 := cells_at H1.out.2.right.block 1; have f0 := thawed_at H1.out.2.block 0; have g0 := thawed_at H1.out.2.right.block 0; have g1 := thawed_at H1.out.2.right.block 1; have f1 := thawed_at H1.out.2.block 1

  cases ht : tenB t with
  | false =>
    have HT := Lib.hid (rtenant_any t W1)
    have HR := Lib.hid (show S.create t Vol.empty = ⟨none, 0, 1⟩ by unfold SpaceM.create; rw [if_pos ht])
    rw [ht] at HT
    clear ht
    go_upto_region 3 with (go_at_call 71; refine HT.out.mono ?_; rintro e _ ⟨rfl, rfl⟩)
    go_wp2
    have HF := box_res (.slice none 0 0) (.slice none 0 0) H1.out.1 H1.out.2
    refine bodyPost_ret (results_c3 rfl rfl rfl rfl HF.out.2.right.block) rfl ?_
    rw [HR.out]
    exact ⟨_, _, rfl, by subst hBB; exact two_below HF.out.1 HF.out.2, rfl, rfl⟩
  | true =>
    have HT := Lib.hid (rtenant_any t W1)
    rw [ht] at HT
    by_cases hl : 64 ≤ S.vols.length
    · have hld : decide ((64 : Int) ≤ (S.vols.length : Int)) = true := decide_eq_true (by omega)
      have HR := Lib.hid (show S.create t Vol.empty = ⟨none, 0, 2⟩ by unfold SpaceM.create; rw [if_neg (by simp [ht]), if_pos hl])
      clear ht hl
      go_upto_region 5 with (go_at_call 71; refine HT.out.mono ?_; rintro e _ ⟨rfl, rfl⟩)
      go_wp2
      have HF := box_res (.slice none 0 0) (.slice none 0 0) H1.out.1 H1.out.2
      refine bodyPost_ret (results_c3 rfl rfl rfl rfl HF.out.2.right.block) rfl ?_
      rw [HR.out]
      exact ⟨_, _, rfl, by subst hBB; exact two_below HF.out.1 HF.out.2, rfl, rfl⟩
    · have hld : decide ((64 : Int) ≤ (S.vols.length : Int)) = false := decide_eq_false (by omega)
      obtain ⟨LN, hLN⟩ : ∃ LN, LN = S.vols.insertIdx (free S.vols) ⟨free S.vols, t, 0, Vol.empty⟩ := ⟨_, rfl⟩
      have HR := Lib.hid (show S.create t Vol.empty = ⟨some { S with vols := LN }, free S.vols, 0⟩ by unfold SpaceM.create; rw [if_neg (by simp [ht]), if_neg hl, hLN])
      have hb1 : Below w.heap.size w W1 := two_below H1.out.1 H1.out.2
      have HFR := Lib.hid (fun (W : World) (hb : Below w.heap.size w W) => rfree_any (.slice va S.vols.length vc) S.vols W (HS.out.1.v.below hb) HS.out.2.vols (by omega))
      have hpt := fun (W : World) (hb : Below w.heap.size w W) => rput_any (.slice va S.vols.length vc) S.vols (free S.vols : Int) t 0 Vol.empty none 0 0 W (in_ref HS.out.1.v hb) (by omega) (by rw [items_empty]; exact RowK.nil _ W)
      rw [posN_free HS.out.2.vols, ← hLN] at hpt
      have HPT := Lib.hid hpt
      have HB1 := Lib.hid hb1
      clear ht hl hb1 hpt hLN
      go_upto_region 8 with (first
        | (go_at_call 71; refine HT.out.mono ?_; rintro e _ ⟨rfl, rfl⟩)
        | (go_at_call 72; refine (HFR.out _ HB1.out).mono ?_; rintro e W2 ⟨rfl, h2⟩; replace HB1 := Lib.hid (HB1.out.trans (h2.mono HB1.out.size)); replace H1 := Lib.hid (And.intro (H1.out.1.trans (same_below h2)) (H1.out.2.keep h2.block)); clear c0 c1 d0 d1 f0 f1 g0 g1; have c0 := cells_at H1.out.2.block 0; have c1 := cells_at H1.out.2.block 1; have d0 := cells_at H1.out.2.right.block 0; have d1 := cells_at H1.out.2.right.block 1; have f0 := thawed_at H1.out.2.block 0; have g0 := thawed_at H1.out.2.right.block 0; have g1 := thawed_at H1.out.2.right.block 1; have f1 := thawed_at H1.out.2.block 1; clear h2)
        | (go_at_call 73; refine (HPT.out _ HB1.out).mono ?_; rintro e W3 ⟨v3, rfl, h3⟩; obtain ⟨a3, k3, rfl, _⟩ := h3.out.2.slice; have HCW := Lib.hid (And.intro H1.out.2.right.lt h3.out.2); replace H1 := Lib.hid (And.intro (H1.out.1.trans (same_below h3.out.1)) (H1.out.2.keep h3.out.1.block)); clear c0 c1 d0 d1 f0 f1 g0 g1; have c0 := cells_at H1.out.2.block 0; have c1 := cells_at H1.out.2.block 1; have d0 := cells_at H1.out.2.right.block 0; have d1 := cells_at H1.out.2.right.block 1; have f0 := thawed_at H1.out.2.block 0; have g0 := thawed_at H1.out.2.right.block 0; have g1 := thawed_at H1.out.2.right.block 1; have f1 := thawed_at H1.out.2.block 1; clear h3))
      have hq := box_fst (.slice a3 LN.length k3) H1.out.1 H1.out.2
      have ho : ∀ k, k ≠ B → k ≠ B + 1 → (W3.setCell ⟨B, 0, none⟩ (.slice a3 LN.length k3)).heap[k]? = W3.heap[k]? := fun k h1 _ => heap_setCell_other _ _ _ _ h1
      have hz : W3.heap.size ≤ (W3.setCell ⟨B, 0, none⟩ (.slice a3 LN.length k3)).heap.size := by simp [World.setCell]
      generalize W3.setCell ⟨B, 0, none⟩ (.slice a3 LN.length k3) = W4 at hq ho hz ⊢
      replace H1 := hq
      have HO := Lib.hid (And.intro ho hz)
      clear c0 c1 d0 d1 f0 f1 g0 g1; have c0 := cells_at H1.out.2.block 0; have c1 := cells_at H1.out.2.block 1; have d0 := cells_at H1.out.2.right.block 0; have d1 := cells_at H1.out.2.right.block 1; have f0 := thawed_at H1.out.2.block 0; have g0 := thawed_at H1.out.2.right.block 0; have g1 := thawed_at H1.out.2.right.block 1; have f1 := thawed_at H1.out.2.block 1
      clear hq ho hz
      go_wp2
      have HF := box_res (.slice a3 LN.length k3) (.slice sa S.snaps.length sc) H1.out.1 H1.out.2
      have hbf := two_below HF.out.1 HF.out.2
      have hzf : W3.heap.size ≤ ((W4.setCell ⟨B + 1, 0, none⟩ (.slice a3 LN.length k3)).setCell ⟨B + 1, 1, none⟩ (.slice sa S.snaps.length sc)).heap.size := by have := HO.out.2; simpa [World.setCell] using this
      have hof : ∀ k, k ≠ B → k ≠ B + 1 → ((W4.setCell ⟨B + 1, 0, none⟩ (.slice a3 LN.length k3)).setCell ⟨B + 1, 1, none⟩ (.slice sa S.snaps.length sc)).heap[k]? = W3.heap[k]? := fun k h1 h2 => ((heap_setCell_other _ _ _ _ h2).trans (heap_setCell_other _ _ _ _ h2)).trans (HO.out.1 k h1 h2)
      refine bodyPost_ret (results_c3 rfl rfl rfl rfl HF.out.2.right.block) rfl ?_
      rw [HR.out]
      refine ⟨_, _, rfl, hbf, ?_, ?_⟩
      · exact fin_ref hBB HCW.out.1 HCW.out.2 hzf hof
      · exact old_ref HS.out.1.s hbf

set_option maxRecDepth 20000 in
set_option maxHeartbeats 4000000 in
theorem rdelete_any {ok : Nat → Prop} (vv vs : Value) (S : SpaceM) (vol : Int) (w : World) (hS : RefAt ok w vv vs S) (hwf : S.WF) :
    Calls Tryz.prog 29 #[.agg #[vv, vs], .int .i64 vol] w (RRes2 ok w (S.delete vol)) := by
  obtain ⟨va, vc, rfl, hvc, hvm⟩ := hS.v.slice
  obtain ⟨sa, sc, rfl, hsc, hsm⟩ := hS.s.slice
  unfold maxLen at hvm hsm
  have HS := Lib.hid (And.intro hS hwf)
  have hvl := hwf.vlen
  have hsl := hwf.slen
  have H0 : Hid (Same w ((w.alloc (.cells #[.slice va S.vols.length vc, .slice sa S.snaps.length sc] TRS)).alloc (.cells #[.slice none 0 0, .slice none 0 0] TRS)) ∧ Sat ((w.alloc (.cells #[.slice va S.vols.length vc, .slice sa S.snaps.length sc] TRS)).alloc (.cells #[.slice none 0 0, .slice none 0 0] TRS)) (pts w.heap.size (.cells #[.slice va S.vols.length vc, .slice sa S.snaps.length sc] TRS (0, 0)) * (pts (w.heap.size + 1) (.cells #[.slice none 0 0, .slice none 0 0] TRS (0, 0)) * old w))) := boxes_new w _ _
  have HB := Lib.hid ((Below.refl w.heap.size w))
  clear hS hwf
  go_enter Tryz.func29, Tryz.ntmps29
  go_upto_region 1 with (fail)
  replace H1 := H0
  clear H0
  generalize ((w.alloc (.cells #[.slice va S.vols.length vc, .slice sa S.snaps.length sc] TRS)).alloc (.cells #[.slice none 0 0, .slice none 0 0] TRS)) = W1 at H1 ⊢
  generalize hBB : w.heap.size = B at H1 ⊢
  have c0 := cells_at H1.out.2.block 0; have c1 := cells_at H1.out.2.block 1; have d0 := cells_at H1.out.2.right.block 0; have d1 := cells_at H1.out.2.right.block 1; have f0 := thawed_at H1.out.2.block 0; have g0 := thawed_at H1.out.2.right.block 0; have g1 := thawed_at H1.out.2.right.block 1; have f1 := thawed_at H1.out.2.block 1

  have hb1 : Below w.heap.size w W1 := two_below H1.out.1 H1.out.2
  have HAT := Lib.hid (rat_any (.slice va S.vols.length vc) S.vols vol W1 (HS.out.1.v.below hb1))
  have HB1 := Lib.hid hb1
  clear hb1
  rcases atP_cases S.vols vol with ⟨hn, hi⟩ | ⟨p, hp, hi, hlt, hid⟩
  · have HR := Lib.hid (show S.delete vol = ⟨none, 0, 12⟩ by unfold SpaceM.delete; rw [hn])
    rw [hi] at HAT
    clear hn hi
    go_upto_region 3 with (go_at_call 51; refine HAT.out.mono ?_; rintro e W2 ⟨rfl, h2⟩; replace H1 := Lib.hid (And.intro (H1.out.1.trans (same_below h2)) (H1.out.2.keep h2.block)); clear c0 c1 d0 d1 f0 f1 g0 g1; have c0 := cells_at H1.out.2.block 0; have c1 := cells_at H1.out.2.block 1; have d0 := cells_at H1.out.2.right.block 0; have d1 := cells_at H1.out.2.right.block 1; have f0 := thawed_at H1.out.2.block 0; have g0 := thawed_at H1.out.2.right.block 0; have g1 := thawed_at H1.out.2.right.block 1; have f1 := thawed_at H1.out.2.block 1; clear h2)
    go_wp2
    have HF := box_res (.slice none 0 0) (.slice none 0 0) H1.out.1 H1.out.2
    refine bodyPost_ret (results_c2 rfl rfl rfl HF.out.2.right.block) rfl ?_
    rw [HR.out]
    exact ⟨_, _, rfl, by subst hBB; exact two_below HF.out.1 HF.out.2, rfl, rfl⟩
  · obtain ⟨LN, hLN⟩ : ∃ LN, LN = S.vols.eraseIdx (atN S.vols vol) := ⟨_, rfl⟩
    have HR := Lib.hid (show S.delete vol = ⟨some { S with vols := LN }, 0, 0⟩ by unfold SpaceM.delete; rw [hp, hLN])
    rw [hi] at HAT
    have hdr := fun (W : World) (hb : Below w.heap.size w W) => rdrop_any (.slice va S.vols.length vc) S.vols (atN S.vols vol) W (in_ref HS.out.1.v hb) (by omega) hlt
    rw [← hLN] at hdr
    have HDR := Lib.hid hdr
    generalize hk : atN S.vols vol = k at HAT HDR
    have hneg : decide ((k : Int) < 0) = false := decide_eq_false (by omega)
    clear hp hi hlt hid hdr hLN hk
    go_upto_region 5 with (first
      | (go_at_call 51; refine HAT.out.mono ?_; rintro e W2 ⟨rfl, h2⟩; replace HB1 := Lib.hid (HB1.out.trans (h2.mono HB1.out.size)); replace H1 := Lib.hid (And.intro (H1.out.1.trans (same_below h2)) (H1.out.2.keep h2.block)); clear c0 c1 d0 d1 f0 f1 g0 g1; have c0 := cells_at H1.out.2.block 0; have c1 := cells_at H1.out.2.block 1; have d0 := cells_at H1.out.2.right.block 0; have d1 := cells_at H1.out.2.right.block 1; have f0 := thawed_at H1.out.2.block 0; have g0 := thawed_at H1.out.2.right.block 0; have g1 := thawed_at H1.out.2.right.block 1; have f1 := thawed_at H1.out.2.block 1; clear h2)
      | (go_at_call 74; refine (HDR.out _ HB1.out).mono ?_; rintro e W3 ⟨v3, rfl, h3⟩; obtain ⟨a3, k3, rfl, _⟩ := h3.out.2.slice; have HCW := Lib.hid (And.intro H1.out.2.right.lt h3.out.2); replace H1 := Lib.hid (And.intro (H1.out.1.trans (same_below h3.out.1)) (H1.out.2.keep h3.out.1.block)); clear c0 c1 d0 d1 f0 f1 g0 g1; have c0 := cells_at H1.out.2.block 0; have c1 := cells_at H1.out.2.block 1; have d0 := cells_at H1.out.2.right.block 0; have d1 := cells_at H1.out.2.right.block 1; have f0 := thawed_at H1.out.2.block 0; have g0 := thawed_at H1.out.2.right.block 0; have g1 := thawed_at H1.out.2.right.block 1; have f1 := thawed_at H1.out.2.block 1; clear h3))
    have hq := box_fst (.slice a3 LN.length k3) H1.out.1 H1.out.2
    have ho : ∀ k, k ≠ B → k ≠ B + 1 → (W3.setCell ⟨B, 0, none⟩ (.slice a3 LN.length k3)).heap[k]? = W3.heap[k]? := fun k h1 _ => heap_setCell_other _ _ _ _ h1
    have hz : W3.heap.size ≤ (W3.setCell ⟨B, 0, none⟩ (.slice a3 LN.length k3)).heap.size := by simp [World.setCell]
    generalize W3.setCell ⟨B, 0, none⟩ (.slice a3 LN.length k3) = W4 at hq ho hz ⊢
    replace H1 := hq
    have HO := Lib.hid (And.intro ho hz)
    clear c0 c1 d0 d1 f0 f1 g0 g1; have c0 := cells_at H1.out.2.block 0; have c1 := cells_at H1.out.2.block 1; have d0 := cells_at H1.out.2.right.block 0; have d1 := cells_at H1.out.2.right.block 1; have f0 := thawed_at H1.out.2.block 0; have g0 := thawed_at H1.out.2.right.block 0; have g1 := thawed_at H1.out.2.right.block 1; have f1 := thawed_at H1.out.2.block 1
    clear hq ho hz
    go_wp2
    have HF := box_res (.slice a3 LN.length k3) (.slice sa S.snaps.length sc) H1.out.1 H1.out.2
    have hbf := two_below HF.out.1 HF.out.2
    have hzf : W3.heap.size ≤ ((W4.setCell ⟨B + 1, 0, none⟩ (.slice a3 LN.length k3)).setCell ⟨B + 1, 1, none⟩ (.slice sa S.snaps.length sc)).heap.size := by have := HO.out.2; simpa [World.setCell] using this
    have hof : ∀ k, k ≠ B → k ≠ B + 1 → ((W4.setCell ⟨B + 1, 0, none⟩ (.slice a3 LN.length k3)).setCell ⟨B + 1, 1, none⟩ (.slice sa S.snaps.length sc)).heap[k]? = W3.heap[k]? := fun k h1 h2 => ((heap_setCell_other _ _ _ _ h2).trans (heap_setCell_other _ _ _ _ h2)).trans (HO.out.1 k h1 h2)
    refine bodyPost_ret (results_c2 rfl rfl rfl HF.out.2.right.block) rfl ?_
    rw [HR.out]
    refine ⟨_, _, rfl, hbf, ?_, ?_⟩
    · exact fin_ref hBB HCW.out.1 HCW.out.2 hzf hof
    · exact old_ref HS.out.1.s hbf

set_option maxRecDepth 20000 in
set_option maxHeartbeats 4000000 in
theorem rdrop2_any {ok : Nat → Prop} (vv vs : Value) (S : SpaceM) (vol : Int) (w : World) (hS : RefAt ok w vv vs S) (hwf : S.WF) :
    Calls Tryz.prog 34 #[.agg #[vv, vs], .int .i64 vol] w (RRes2 ok w (S.drop vol)) := by
  obtain ⟨va, vc, rfl, hvc, hvm⟩ := hS.v.slice
  obtain ⟨sa, sc, rfl, hsc, hsm⟩ := hS.s.slice
  unfold maxLen at hvm hsm
  have HS := Lib.hid (And.intro hS hwf)
  have hvl := hwf.vlen
  have hsl := hwf.slen
  have H0 : Hid (Same w ((w.alloc (.cells #[.slice va S.vols.length vc, .slice sa S.snaps.length sc] TRS)).alloc (.cells #[.slice none 0 0, .slice none 0 0] TRS)) ∧ Sat ((w.alloc (.cells #[.slice va S.vols.length vc, .slice sa S.snaps.length sc] TRS)).alloc (.cells #[.slice none 0 0, .slice none 0 0] TRS)) (pts w.heap.size (.cells #[.slice va S.vols.length vc, .slice sa S.snaps.length sc] TRS (0, 0)) * (pts (w.heap.size + 1) (.cells #[.slice none 0 0, .slice none 0 0] TRS (0, 0)) * old w))) := boxes_new w _ _
  have HB := Lib.hid ((Below.refl w.heap.size w))
  clear hS hwf
  go_enter Tryz.func34, Tryz.ntmps34
  go_upto_region 1 with (fail)
  replace H1 := H0
  clear H0
  generalize ((w.alloc (.cells #[.slice va S.vols.length vc, .slice sa S.snaps.length sc] TRS)).alloc (.cells #[.slice none 0 0, .slice none 0 0] TRS)) = W1 at H1 ⊢
  generalize hBB : w.heap.size = B at H1 ⊢
  have c0 := cells_at H1.out.2.block 0; have c1 := cells_at H1.out.2.block 1; have d0 := cells_at H1.out.2.right.block 0; have d1 := cells_at H1.out.2.right.block 1; have f0 := thawed_at H1.out.2.block 0; have g0 := thawed_at H1.out.2.right.block 0; have g1 := thawed_at H1.out.2.right.block 1; have f1 := thawed_at H1.out.2.block 1

  have hb1 : Below w.heap.size w W1 := two_below H1.out.1 H1.out.2
  have HAT := Lib.hid (rat_any (.slice sa S.snaps.length sc) S.snaps vol W1 (HS.out.1.s.below hb1))
  have HB1 := Lib.hid hb1
  clear hb1
  rcases atP_cases S.snaps vol with ⟨hn, hi⟩ | ⟨p, hp, hi, hlt, hid⟩
  · have HR := Lib.hid (show S.drop vol = ⟨none, 0, 12⟩ by unfold SpaceM.drop; rw [hn])
    rw [hi] at HAT
    clear hn hi
    go_upto_region 3 with (go_at_call 51; refine HAT.out.mono ?_; rintro e W2 ⟨rfl, h2⟩; replace H1 := Lib.hid (And.intro (H1.out.1.trans (same_below h2)) (H1.out.2.keep h2.block)); clear c0 c1 d0 d1 f0 f1 g0 g1; have c0 := cells_at H1.out.2.block 0; have c1 := cells_at H1.out.2.block 1; have d0 := cells_at H1.out.2.right.block 0; have d1 := cells_at H1.out.2.right.block 1; have f0 := thawed_at H1.out.2.block 0; have g0 := thawed_at H1.out.2.right.block 0; have g1 := thawed_at H1.out.2.right.block 1; have f1 := thawed_at H1.out.2.block 1; clear h2)
    go_wp2
    have HF := box_res (.slice none 0 0) (.slice none 0 0) H1.out.1 H1.out.2
    refine bodyPost_ret (results_c2 rfl rfl rfl HF.out.2.right.block) rfl ?_
    rw [HR.out]
    exact ⟨_, _, rfl, by subst hBB; exact two_below HF.out.1 HF.out.2, rfl, rfl⟩
  · obtain ⟨LN, hLN⟩ : ∃ LN, LN = S.snaps.eraseIdx (atN S.snaps vol) := ⟨_, rfl⟩
    have HR := Lib.hid (show S.drop vol = ⟨some { S with snaps := LN }, 0, 0⟩ by unfold SpaceM.drop; rw [hp, hLN])
    rw [hi] at HAT
    have hdr := fun (W : World) (hb : Below w.heap.size w W) => rdrop_any (.slice sa S.snaps.length sc) S.snaps (atN S.snaps vol) W (in_ref HS.out.1.s hb) (by omega) hlt
    rw [← hLN] at hdr
    have HDR := Lib.hid hdr
    generalize hk : atN S.snaps vol = k at HAT HDR
    have hneg : decide ((k : Int) < 0) = false := decide_eq_false (by omega)
    clear hp hi hlt hid hdr hLN hk
    go_upto_region 5 with (first
      | (go_at_call 51; refine HAT.out.mono ?_; rintro e W2 ⟨rfl, h2⟩; replace HB1 := Lib.hid (HB1.out.trans (h2.mono HB1.out.size)); replace H1 := Lib.hid (And.intro (H1.out.1.trans (same_below h2)) (H1.out.2.keep h2.block)); clear c0 c1 d0 d1 f0 f1 g0 g1; have c0 := cells_at H1.out.2.block 0; have c1 := cells_at H1.out.2.block 1; have d0 := cells_at H1.out.2.right.block 0; have d1 := cells_at H1.out.2.right.block 1; have f0 := thawed_at H1.out.2.block 0; have g0 := thawed_at H1.out.2.right.block 0; have g1 := thawed_at H1.out.2.right.block 1; have f1 := thawed_at H1.out.2.block 1; clear h2)
      | (go_at_call 74; refine (HDR.out _ HB1.out).mono ?_; rintro e W3 ⟨v3, rfl, h3⟩; obtain ⟨a3, k3, rfl, _⟩ := h3.out.2.slice; have HCW := Lib.hid (And.intro H1.out.2.right.lt h3.out.2); replace H1 := Lib.hid (And.intro (H1.out.1.trans (same_below h3.out.1)) (H1.out.2.keep h3.out.1.block)); clear c0 c1 d0 d1 f0 f1 g0 g1; have c0 := cells_at H1.out.2.block 0; have c1 := cells_at H1.out.2.block 1; have d0 := cells_at H1.out.2.right.block 0; have d1 := cells_at H1.out.2.right.block 1; have f0 := thawed_at H1.out.2.block 0; have g0 := thawed_at H1.out.2.right.block 0; have g1 := thawed_at H1.out.2.right.block 1; have f1 := thawed_at H1.out.2.block 1; clear h3))
    have hq := box_snd (.slice a3 LN.length k3) H1.out.1 H1.out.2
    have ho : ∀ k, k ≠ B → k ≠ B + 1 → (W3.setCell ⟨B, 1, none⟩ (.slice a3 LN.length k3)).heap[k]? = W3.heap[k]? := fun k h1 _ => heap_setCell_other _ _ _ _ h1
    have hz : W3.heap.size ≤ (W3.setCell ⟨B, 1, none⟩ (.slice a3 LN.length k3)).heap.size := by simp [World.setCell]
    generalize W3.setCell ⟨B, 1, none⟩ (.slice a3 LN.length k3) = W4 at hq ho hz ⊢
    replace H1 := hq
    have HO := Lib.hid (And.intro ho hz)
    clear c0 c1 d0 d1 f0 f1 g0 g1; have c0 := cells_at H1.out.2.block 0; have c1 := cells_at H1.out.2.block 1; have d0 := cells_at H1.out.2.right.block 0; have d1 := cells_at H1.out.2.right.block 1; have f0 := thawed_at H1.out.2.block 0; have g0 := thawed_at H1.out.2.right.block 0; have g1 := thawed_at H1.out.2.right.block 1; have f1 := thawed_at H1.out.2.block 1
    clear hq ho hz
    go_wp2
    have HF := box_res (.slice va S.vols.length vc) (.slice a3 LN.length k3) H1.out.1 H1.out.2
    have hbf := two_below HF.out.1 HF.out.2
    have hzf : W3.heap.size ≤ ((W4.setCell ⟨B + 1, 0, none⟩ (.slice va S.vols.length vc)).setCell ⟨B + 1, 1, none⟩ (.slice a3 LN.length k3)).heap.size := by have := HO.out.2; simpa [World.setCell] using this
    have hof : ∀ k, k ≠ B → k ≠ B + 1 → ((W4.setCell ⟨B + 1, 0, none⟩ (.slice va S.vols.length vc)).setCell ⟨B + 1, 1, none⟩ (.slice a3 LN.length k3)).heap[k]? = W3.heap[k]? := fun k h1 h2 => ((heap_setCell_other _ _ _ _ h2).trans (heap_setCell_other _ _ _ _ h2)).trans (HO.out.1 k h1 h2)
    refine bodyPost_ret (results_c2 rfl rfl rfl HF.out.2.right.block) rfl ?_
    rw [HR.out]
    refine ⟨_, _, rfl, hbf, ?_, ?_⟩
    · exact old_ref HS.out.1.v hbf
    · exact fin_ref hBB HCW.out.1 HCW.out.2 hzf hof

theorem rten_b (t : Int) (W : World) : Calls Tryz.prog 71 #[.int .i64 t] W fun e w' => e = .returned (.bool (tenB t)) ∧ Below W.heap.size W w' := (rtenant_any t W).mono fun e w' h => ⟨h.1, by rw [h.2]; exact Below.refl _ _⟩
theorem rblk_b (t : Int) (W : World) : Calls Tryz.prog 76 #[.int .i64 t] W fun e w' => e = .returned (.bool (blkB t)) ∧ Below W.heap.size W w' := (rblock_any t W).mono fun e w' h => ⟨h.1, by rw [h.2]; exact Below.refl _ _⟩
set_option maxRecDepth 20000 in
set_option maxHeartbeats 4000000 in
theorem rgive_any {ok : Nat → Prop} (vv vs : Value) (S : SpaceM) (vol t : Int) (w : World) (hS : RefAt ok w vv vs S) (hwf : S.WF) :
    Calls Tryz.prog 30 #[.agg #[vv, vs], .int .i64 vol, .int .i64 t] w (RRes2 ok w (S.give vol t)) := by
  obtain ⟨va, vc, rfl, hvc, hvm⟩ := hS.v.slice
  obtain ⟨sa, sc, rfl, hsc, hsm⟩ := hS.s.slice
  unfold maxLen at hvm hsm
  have HS := Lib.hid (And.intro hS hwf)
  have hvl := hwf.vlen
  have hsl := hwf.slen
  have H0 : Hid (Same w ((w.alloc (.cells #[.slice va S.vols.length vc, .slice sa S.snaps.length sc] TRS)).alloc (.cells #[.slice none 0 0, .slice none 0 0] TRS)) ∧ Sat ((w.alloc (.cells #[.slice va S.vols.length vc, .slice sa S.snaps.length sc] TRS)).alloc (.cells #[.slice none 0 0, .slice none 0 0] TRS)) (pts w.heap.size (.cells #[.slice va S.vols.length vc, .slice sa S.snaps.length sc] TRS (0, 0)) * (pts (w.heap.size + 1) (.cells #[.slice none 0 0, .slice none 0 0] TRS (0, 0)) * old w))) := boxes_new w _ _
  have HB := Lib.hid ((Below.refl w.heap.size w))
  clear hS hwf
  go_enter Tryz.func30, Tryz.ntmps30
  go_upto_region 1 with (fail)
  replace H1 := H0
  clear H0
  generalize ((w.alloc (.cells #[.slice va S.vols.length vc, .slice sa S.snaps.length sc] TRS)).alloc (.cells #[.slice none 0 0, .slice none 0 0] TRS)) = W1 at H1 ⊢
  generalize hBB : w.heap.size = B at H1 ⊢
  have c0 := cells_at H1.out.2.block 0; have c1 := cells_at H1.out.2.block 1; have d0 := cells_at H1.out.2.right.block 0; have d1 := cells_at H1.out.2.right.block 1; have f0 := thawed_at H1.out.2.block 0; have g0 := thawed_at H1.out.2.right.block 0; have g1 := thawed_at H1.out.2.right.block 1; have f1 := thawed_at H1.out.2.block 1

  have hb1 : Below w.heap.size w W1 := two_below H1.out.1 H1.out.2
  have HAT := Lib.hid (fun (W : World) (hb : Below w.heap.size w W) => rat_any (.slice va S.vols.length vc) S.vols vol W (HS.out.1.v.below hb))
  have HB1 := Lib.hid hb1
  clear hb1
  have HT := Lib.hid (fun W => rten_b t W)
  rcases atP_cases S.vols vol with ⟨hn, hi⟩ | ⟨p, hp, hi, hlt, hid⟩
  · have HR := Lib.hid (show S.give vol t = ⟨none, 0, 12⟩ by unfold SpaceM.give SpaceM.change; rw [hn])
    rw [hi] at HAT
    clear hn hi
    go_upto_region 3 with (go_at_call 51; with_reducible refine (HAT.out _ HB1.out).mono ?_; rintro e W2 ⟨rfl, h2⟩; replace HB1 := Lib.hid (HB1.out.trans (h2.mono HB1.out.size)); replace H1 := Lib.hid (And.intro (H1.out.1.trans (same_below h2)) (H1.out.2.keep h2.block)); clear c0 c1 d0 d1 f0 f1 g0 g1; have c0 := cells_at H1.out.2.block 0; have c1 := cells_at H1.out.2.block 1; have d0 := cells_at H1.out.2.right.block 0; have d1 := cells_at H1.out.2.right.block 1; have f0 := thawed_at H1.out.2.block 0; have g0 := thawed_at H1.out.2.right.block 0; have g1 := thawed_at H1.out.2.right.block 1; have f1 := thawed_at H1.out.2.block 1; clear h2)
    go_wp2
    have HF := box_res (.slice none 0 0) (.slice none 0 0) H1.out.1 H1.out.2
    refine bodyPost_ret (results_c2 rfl rfl rfl HF.out.2.right.block) rfl ?_
    rw [HR.out]
    exact ⟨_, _, rfl, by subst hBB; exact two_below HF.out.1 HF.out.2, rfl, rfl⟩
  · rw [hi] at HAT
    cases ht : tenB t with
    | false =>
      have HR := Lib.hid (show S.give vol t = ⟨none, 0, 1⟩ by unfold SpaceM.give SpaceM.change; rw [hp]; simp [ht])
      rw [ht] at HT
      generalize hk : atN S.vols vol = k at HAT
      have hneg : decide ((k : Int) < 0) = false := decide_eq_false (by omega)
      clear hp hi hlt hid hk ht
      go_upto_region 6 with (first | (go_at_call 51; with_reducible refine (HAT.out _ HB1.out).mono ?_; rintro e W2 ⟨rfl, h2⟩; replace HB1 := Lib.hid (HB1.out.trans (h2.mono HB1.out.size)); replace H1 := Lib.hid (And.intro (H1.out.1.trans (same_below h2)) (H1.out.2.keep h2.block)); clear c0 c1 d0 d1 f0 f1 g0 g1; have c0 := cells_at H1.out.2.block 0; have c1 := cells_at H1.out.2.block 1; have d0 := cells_at H1.out.2.right.block 0; have d1 := cells_at H1.out.2.right.block 1; have f0 := thawed_at H1.out.2.block 0; have g0 := thawed_at H1.out.2.right.block 0; have g1 := thawed_at H1.out.2.right.block 1; have f1 := thawed_at H1.out.2.block 1; clear h2) | (go_at_call 71; refine (HT.out _).mono ?_; rintro e Wt ⟨rfl, ht⟩; replace HB1 := Lib.hid (HB1.out.trans (ht.mono HB1.out.size)); replace H1 := Lib.hid (And.intro (H1.out.1.trans (same_below ht)) (H1.out.2.keep ht.block)); clear c0 c1 d0 d1 f0 f1 g0 g1; have c0 := cells_at H1.out.2.block 0; have c1 := cells_at H1.out.2.block 1; have d0 := cells_at H1.out.2.right.block 0; have d1 := cells_at H1.out.2.right.block 1; have f0 := thawed_at H1.out.2.block 0; have g0 := thawed_at H1.out.2.right.block 0; have g1 := thawed_at H1.out.2.right.block 1; have f1 := thawed_at H1.out.2.block 1; clear ht))
      go_wp2
      have HF := box_res (.slice none 0 0) (.slice none 0 0) H1.out.1 H1.out.2
      refine bodyPost_ret (results_c2 rfl rfl rfl HF.out.2.right.block) rfl ?_
      rw [HR.out]
      exact ⟨_, _, rfl, by subst hBB; exact two_below HF.out.1 HF.out.2, rfl, rfl⟩
    | true =>
      obtain ⟨LN, hLN⟩ : ∃ LN, LN = S.vols.set (atN S.vols vol) { p with tenant := t } := ⟨_, rfl⟩
      have HR := Lib.hid (show S.give vol t = ⟨some { S with vols := LN }, 0, 0⟩ by unfold SpaceM.give SpaceM.change; rw [hp, hLN]; simp [ht])
      rw [ht] at HT
      obtain ⟨g, pa, pc, rfl, hg, e0, e1, e2, e3, hrow⟩ := part_at HS.out.1.v hp
      have hwi := fun (W : World) (hb : Below w.heap.size w W) => rwith_any (.slice (some ⟨g, 0, none⟩) S.vols.length vc) S.vols (atN S.vols vol) p.id t p.src p.m pa (items p.m).length pc W (in_ref HS.out.1.v hb) (by omega) hlt (in_row hrow hb)
      rw [← hLN] at hwi
      have HWI := Lib.hid hwi
      have HE := Lib.hid (And.intro hg (And.intro e0 (And.intro e1 (And.intro e2 e3))))
      generalize hk : atN S.vols vol = k at *
      generalize (items p.m).length = pn at *
      have hneg : decide ((k : Int) < 0) = false := decide_eq_false (by omega)
      have hk63 : (k : Int) ≤ 64 := by omega
      clear hp hi hid hwi hLN hk ht e0 e1 e2 e3 hrow hg
      go_upto_region 7 with (first | (go_at_call 51; with_reducible refine (HAT.out _ HB1.out).mono ?_; rintro e W2 ⟨rfl, h2⟩; replace HB1 := Lib.hid (HB1.out.trans (h2.mono HB1.out.size)); replace H1 := Lib.hid (And.intro (H1.out.1.trans (same_below h2)) (H1.out.2.keep h2.block)); clear c0 c1 d0 d1 f0 f1 g0 g1; have c0 := cells_at H1.out.2.block 0; have c1 := cells_at H1.out.2.block 1; have d0 := cells_at H1.out.2.right.block 0; have d1 := cells_at H1.out.2.right.block 1; have f0 := thawed_at H1.out.2.block 0; have g0 := thawed_at H1.out.2.right.block 0; have g1 := thawed_at H1.out.2.right.block 1; have f1 := thawed_at H1.out.2.block 1; clear h2) | (go_at_call 71; refine (HT.out _).mono ?_; rintro e Wt ⟨rfl, ht⟩; replace HB1 := Lib.hid (HB1.out.trans (ht.mono HB1.out.size)); replace H1 := Lib.hid (And.intro (H1.out.1.trans (same_below ht)) (H1.out.2.keep ht.block)); clear c0 c1 d0 d1 f0 f1 g0 g1; have c0 := cells_at H1.out.2.block 0; have c1 := cells_at H1.out.2.block 1; have d0 := cells_at H1.out.2.right.block 0; have d1 := cells_at H1.out.2.right.block 1; have f0 := thawed_at H1.out.2.block 0; have g0 := thawed_at H1.out.2.right.block 0; have g1 := thawed_at H1.out.2.right.block 1; have f1 := thawed_at H1.out.2.block 1; clear ht))
      have e0 := (HB1.out.cell (p := ⟨g, k * 4, none⟩) HE.out.1).trans HE.out.2.1
      have e1 := (HB1.out.cell (p := ⟨g, k * 4 + 1, none⟩) HE.out.1).trans HE.out.2.2.1
      have e2 := (HB1.out.cell (p := ⟨g, k * 4 + 2, none⟩) HE.out.1).trans HE.out.2.2.2.1
      have e3 := (HB1.out.cell (p := ⟨g, k * 4 + 3, none⟩) HE.out.1).trans HE.out.2.2.2.2
      go_upto_region 9 with (fail)
      have hbP := (Below.refl Wt.heap.size Wt).alloc (Nat.le_refl _) (.cells #[.int .i64 p.id, .int .i64 t, .int .i64 p.src, .slice pa pn pc] TP)
      have hPb := heap_alloc_new Wt (.cells #[.int .i64 p.id, .int .i64 t, .int .i64 p.src, .slice pa pn pc] TP)
      replace HB1 := Lib.hid (HB1.out.trans (hbP.mono HB1.out.size)); replace H1 := Lib.hid (And.intro (H1.out.1.trans (same_below hbP)) (H1.out.2.keep hbP.block)); clear c0 c1 d0 d1 f0 f1 g0 g1; have c0 := cells_at H1.out.2.block 0; have c1 := cells_at H1.out.2.block 1; have d0 := cells_at H1.out.2.right.block 0; have d1 := cells_at H1.out.2.right.block 1; have f0 := thawed_at H1.out.2.block 0; have g0 := thawed_at H1.out.2.right.block 0; have g1 := thawed_at H1.out.2.right.block 1; have f1 := thawed_at H1.out.2.block 1
      clear hbP e0 e1 e2 e3
      generalize Wt.alloc (.cells #[.int .i64 p.id, .int .i64 t, .int .i64 p.src, .slice pa pn pc] TP) = W5 at H1 HB1 hPb c0 c1 d0 d1 f0 f1 g0 g1 ⊢
      generalize Wt.heap.size = P at hPb ⊢
      have p0 := cells_at hPb 0; have p1 := cells_at hPb 1; have p2 := cells_at hPb 2; have p3 := cells_at hPb 3
      have q0 := thawed_at hPb 0; have q1 := thawed_at hPb 1; have q2 := thawed_at hPb 2; have q3 := thawed_at hPb 3
      go_upto_region 10 with (go_at_call 75; refine (HWI.out _ HB1.out).mono ?_; rintro e W7 ⟨v7, rfl, h7⟩; obtain ⟨a7, k7, rfl, _⟩ := h7.out.2.slice; have HCW := Lib.hid (And.intro H1.out.2.right.lt h7.out.2); replace H1 := Lib.hid (And.intro (H1.out.1.trans (same_below h7.out.1)) (H1.out.2.keep h7.out.1.block)); clear c0 c1 d0 d1 f0 f1 g0 g1; have c0 := cells_at H1.out.2.block 0; have c1 := cells_at H1.out.2.block 1; have d0 := cells_at H1.out.2.right.block 0; have d1 := cells_at H1.out.2.right.block 1; have f0 := thawed_at H1.out.2.block 0; have g0 := thawed_at H1.out.2.right.block 0; have g1 := thawed_at H1.out.2.right.block 1; have f1 := thawed_at H1.out.2.block 1; clear h7)
      clear p0 p1 p2 p3 q0 q1 q2 q3 hPb
      have hq := box_fst (.slice a7 LN.length k7) H1.out.1 H1.out.2
      have ho : ∀ k, k ≠ B → k ≠ B + 1 → (W7.setCell ⟨B, 0, none⟩ (.slice a7 LN.length k7)).heap[k]? = W7.heap[k]? := fun k h1 _ => heap_setCell_other _ _ _ _ h1
      have hz : W7.heap.size ≤ (W7.setCell ⟨B, 0, none⟩ (.slice a7 LN.length k7)).heap.size := by simp [World.setCell]
      generalize W7.setCell ⟨B, 0, none⟩ (.slice a7 LN.length k7) = W4 at hq ho hz ⊢
      replace H1 := hq
      have HO := Lib.hid (And.intro ho hz)
      clear c0 c1 d0 d1 f0 f1 g0 g1; have c0 := cells_at H1.out.2.block 0; have c1 := cells_at H1.out.2.block 1; have d0 := cells_at H1.out.2.right.block 0; have d1 := cells_at H1.out.2.right.block 1; have f0 := thawed_at H1.out.2.block 0; have g0 := thawed_at H1.out.2.right.block 0; have g1 := thawed_at H1.out.2.right.block 1; have f1 := thawed_at H1.out.2.block 1
      clear hq ho hz
      go_wp2
      have HF := box_res (.slice a7 LN.length k7) (.slice sa S.snaps.length sc) H1.out.1 H1.out.2
      have hbf := two_below HF.out.1 HF.out.2
      have hzf : W7.heap.size ≤ ((W4.setCell ⟨B + 1, 0, none⟩ (.slice a7 LN.length k7)).setCell ⟨B + 1, 1, none⟩ (.slice sa S.snaps.length sc)).heap.size := by have := HO.out.2; simpa [World.setCell] using this
      have hof : ∀ k, k ≠ B → k ≠ B + 1 → ((W4.setCell ⟨B + 1, 0, none⟩ (.slice a7 LN.length k7)).setCell ⟨B + 1, 1, none⟩ (.slice sa S.snaps.length sc)).heap[k]? = W7.heap[k]? := fun k h1 h2 => ((heap_setCell_other _ _ _ _ h2).trans (heap_setCell_other _ _ _ _ h2)).trans (HO.out.1 k h1 h2)
      refine bodyPost_ret (results_c2 rfl rfl rfl HF.out.2.right.block) rfl ?_
      rw [HR.out]
      refine ⟨_, _, rfl, hbf, ?_, ?_⟩
      · exact fin_ref hBB HCW.out.1 HCW.out.2 hzf hof
      · exact old_ref HS.out.1.s hbf

set_option maxRecDepth 20000 in
set_option maxHeartbeats 4000000 in
theorem rsnapshot_any {ok : Nat → Prop} (vv vs : Value) (S : SpaceM) (vol : Int) (w : World) (hS : RefAt ok w vv vs S) (hwf : S.WF) :
    Calls Tryz.prog 33 #[.agg #[vv, vs], .int .i64 vol] w (RRes3 ok w (S.snapshot vol)) := by
  obtain ⟨va, vc, rfl, hvc, hvm⟩ := hS.v.slice
  obtain ⟨sa, sc, rfl, hsc, hsm⟩ := hS.s.slice
  unfold maxLen at hvm hsm
  have HS := Lib.hid (And.intro hS hwf)
  have hvl := hwf.vlen
  have hsl := hwf.slen
  have H0 : Hid (Same w ((w.alloc (.cells #[.slice va S.vols.length vc, .slice sa S.snaps.length sc] TRS)).alloc (.cells #[.slice none 0 0, .slice none 0 0] TRS)) ∧ Sat ((w.alloc (.cells #[.slice va S.vols.length vc, .slice sa S.snaps.length sc] TRS)).alloc (.cells #[.slice none 0 0, .slice none 0 0] TRS)) (pts w.heap.size (.cells #[.slice va S.vols.length vc, .slice sa S.snaps.length sc] TRS (0, 0)) * (pts (w.heap.size + 1) (.cells #[.slice none 0 0, .slice none 0 0] TRS (0, 0)) * old w))) := boxes_new w _ _
  have HB := Lib.hid ((Below.refl w.heap.size w))
  clear hS hwf
  go_enter Tryz.func33, Tryz.ntmps33
  go_upto_region 1 with (fail)
  replace H1 := H0
  clear H0
  generalize ((w.alloc (.cells #[.slice va S.vols.length vc, .slice sa S.snaps.length sc] TRS)).alloc (.cells #[.slice none 0 0, .slice none 0 0] TRS)) = W1 at H1 ⊢
  generalize hBB : w.heap.size = B at H1 ⊢
  have c0 := cells_at H1.out.2.block 0; have c1 := cells_at H1.out.2.block 1; have d0 := cells_at H1.out.2.right.block 0; have d1 := cells_at H1.out.2.right.block 1; have f0 := thawed_at H1.out.2.block 0; have g0 := thawed_at H1.out.2.right.block 0; have g1 := thawed_at H1.out.2.right.block 1; have f1 := thawed_at H1.out.2.block 1

  have hb1 : Below w.heap.size w W1 := two_below H1.out.1 H1.out.2
  have HAT := Lib.hid (fun (W : World) (hb : Below w.heap.size w W) => rat_any (.slice va S.vols.length vc) S.vols vol W (HS.out.1.v.below hb))
  have HB1 := Lib.hid hb1
  clear hb1
  rcases atP_cases S.vols vol with ⟨hn, hi⟩ | ⟨p, hp, hi, hlt, hid⟩
  · have HR := Lib.hid (show S.snapshot vol = ⟨none, 0, 12⟩ by unfold SpaceM.snapshot; rw [hn])
    rw [hi] at HAT
    clear hn hi
    go_upto_region 3 with (go_at_call 51; with_reducible refine (HAT.out _ HB1.out).mono ?_; rintro e W2 ⟨rfl, h2⟩; replace HB1 := Lib.hid (HB1.out.trans (h2.mono HB1.out.size)); replace H1 := Lib.hid (And.intro (H1.out.1.trans (same_below h2)) (H1.out.2.keep h2.block)); clear c0 c1 d0 d1 f0 f1 g0 g1; have c0 := cells_at H1.out.2.block 0; have c1 := cells_at H1.out.2.block 1; have d0 := cells_at H1.out.2.right.block 0; have d1 := cells_at H1.out.2.right.block 1; have f0 := thawed_at H1.out.2.block 0; have g0 := thawed_at H1.out.2.right.block 0; have g1 := thawed_at H1.out.2.right.block 1; have f1 := thawed_at H1.out.2.block 1; clear h2)
    go_wp2
    have HF := box_res (.slice none 0 0) (.slice none 0 0) H1.out.1 H1.out.2
    refine bodyPost_ret (results_c3 rfl rfl rfl rfl HF.out.2.right.block) rfl ?_
    rw [HR.out]
    exact ⟨_, _, rfl, by subst hBB; exact two_below HF.out.1 HF.out.2, rfl, rfl⟩
  · rw [hi] at HAT
    by_cases hl : 256 ≤ S.snaps.length
    · have hld : decide ((256 : Int) ≤ (S.snaps.length : Int)) = true := decide_eq_true (by omega)
      have HR := Lib.hid (show S.snapshot vol = ⟨none, 0, 2⟩ by unfold SpaceM.snapshot; rw [hp]; simp only; rw [if_pos hl])
      generalize hk : atN S.vols vol = k at HAT
      have hneg : decide ((k : Int) < 0) = false := decide_eq_false (by omega)
      clear hp hi hlt hid hk hl
      go_upto_region 5 with (go_at_call 51; with_reducible refine (HAT.out _ HB1.out).mono ?_; rintro e W2 ⟨rfl, h2⟩; replace HB1 := Lib.hid (HB1.out.trans (h2.mono HB1.out.size)); replace H1 := Lib.hid (And.intro (H1.out.1.trans (same_below h2)) (H1.out.2.keep h2.block)); clear c0 c1 d0 d1 f0 f1 g0 g1; have c0 := cells_at H1.out.2.block 0; have c1 := cells_at H1.out.2.block 1; have d0 := cells_at H1.out.2.right.block 0; have d1 := cells_at H1.out.2.right.block 1; have f0 := thawed_at H1.out.2.block 0; have g0 := thawed_at H1.out.2.right.block 0; have g1 := thawed_at H1.out.2.right.block 1; have f1 := thawed_at H1.out.2.block 1; clear h2)
      go_wp2
      have HF := box_res (.slice none 0 0) (.slice none 0 0) H1.out.1 H1.out.2
      refine bodyPost_ret (results_c3 rfl rfl rfl rfl HF.out.2.right.block) rfl ?_
      rw [HR.out]
      exact ⟨_, _, rfl, by subst hBB; exact two_below HF.out.1 HF.out.2, rfl, rfl⟩
    · have hld : decide ((256 : Int) ≤ (S.snaps.length : Int)) = false := decide_eq_false (by omega)
      obtain ⟨LN, hLN⟩ : ∃ LN, LN = S.snaps.insertIdx (free S.snaps) ⟨free S.snaps, p.tenant, vol, p.m⟩ := ⟨_, rfl⟩
      have HR := Lib.hid (show S.snapshot vol = ⟨some { S with snaps := LN }, free S.snaps, 0⟩ by unfold SpaceM.snapshot; rw [hp]; simp only; rw [if_neg hl, hLN])
      obtain ⟨g, pa, pc, rfl, hg, e0, e1, e2, e3, hrow⟩ := part_at HS.out.1.v hp
      have HFR := Lib.hid (fun (W : World) (hb : Below w.heap.size w W) => rfree_any (.slice sa S.snaps.length sc) S.snaps W (HS.out.1.s.below hb) HS.out.2.snaps (by omega))
      have hpt := fun (W : World) (hb : Below w.heap.size w W) => rput_any (.slice sa S.snaps.length sc) S.snaps (free S.snaps : Int) p.tenant vol p.m pa (items p.m).length pc W (in_ref HS.out.1.s hb) (by omega) (in_row hrow hb)
      rw [posN_free HS.out.2.snaps, ← hLN] at hpt
      have HPT := Lib.hid hpt
      have HE := Lib.hid (And.intro hg (And.intro e0 (And.intro e1 (And.intro e2 e3))))
      generalize hk : atN S.vols vol = k at *
      generalize (items p.m).length = pn at *
      have hneg : decide ((k : Int) < 0) = false := decide_eq_false (by omega)
      have hk63 : (k : Int) ≤ 64 := by omega
      clear hp hi hid hpt hLN hk hl e0 e1 e2 e3 hrow hg
      go_upto_region 6 with (go_at_call 51; with_reducible refine (HAT.out _ HB1.out).mono ?_; rintro e W2 ⟨rfl, h2⟩; replace HB1 := Lib.hid (HB1.out.trans (h2.mono HB1.out.size)); replace H1 := Lib.hid (And.intro (H1.out.1.trans (same_below h2)) (H1.out.2.keep h2.block)); clear c0 c1 d0 d1 f0 f1 g0 g1; have c0 := cells_at H1.out.2.block 0; have c1 := cells_at H1.out.2.block 1; have d0 := cells_at H1.out.2.right.block 0; have d1 := cells_at H1.out.2.right.block 1; have f0 := thawed_at H1.out.2.block 0; have g0 := thawed_at H1.out.2.right.block 0; have g1 := thawed_at H1.out.2.right.block 1; have f1 := thawed_at H1.out.2.block 1; clear h2)
      have e0 := (HB1.out.cell (p := ⟨g, k * 4, none⟩) HE.out.1).trans HE.out.2.1
      have e1 := (HB1.out.cell (p := ⟨g, k * 4 + 1, none⟩) HE.out.1).trans HE.out.2.2.1
      have e2 := (HB1.out.cell (p := ⟨g, k * 4 + 2, none⟩) HE.out.1).trans HE.out.2.2.2.1
      have e3 := (HB1.out.cell (p := ⟨g, k * 4 + 3, none⟩) HE.out.1).trans HE.out.2.2.2.2
      go_upto_region 7 with (fail)
      have hbP := (Below.refl W2.heap.size W2).alloc (Nat.le_refl _) (.cells #[.int .i64 p.id, .int .i64 p.tenant, .int .i64 p.src, .slice pa pn pc] TP)
      have hPb := heap_alloc_new W2 (.cells #[.int .i64 p.id, .int .i64 p.tenant, .int .i64 p.src, .slice pa pn pc] TP)
      replace HB1 := Lib.hid (HB1.out.trans (hbP.mono HB1.out.size)); replace H1 := Lib.hid (And.intro (H1.out.1.trans (same_below hbP)) (H1.out.2.keep hbP.block)); clear c0 c1 d0 d1 f0 f1 g0 g1; have c0 := cells_at H1.out.2.block 0; have c1 := cells_at H1.out.2.block 1; have d0 := cells_at H1.out.2.right.block 0; have d1 := cells_at H1.out.2.right.block 1; have f0 := thawed_at H1.out.2.block 0; have g0 := thawed_at H1.out.2.right.block 0; have g1 := thawed_at H1.out.2.right.block 1; have f1 := thawed_at H1.out.2.block 1
      clear hbP e0 e1 e2 e3
      generalize W2.alloc (.cells #[.int .i64 p.id, .int .i64 p.tenant, .int .i64 p.src, .slice pa pn pc] TP) = W5 at H1 HB1 hPb c0 c1 d0 d1 f0 f1 g0 g1 ⊢
      generalize W2.heap.size = P at hPb ⊢
      have p0 := cells_at hPb 0; have p1 := cells_at hPb 1; have p2 := cells_at hPb 2; have p3 := cells_at hPb 3
      have q0 := thawed_at hPb 0; have q1 := thawed_at hPb 1; have q2 := thawed_at hPb 2; have q3 := thawed_at hPb 3
      have HP := Lib.hid hPb
      go_upto_region 9 with (first
        | (go_at_call 72; refine (HFR.out _ HB1.out).mono ?_; rintro e W6 ⟨rfl, h6⟩; replace HB1 := Lib.hid (HB1.out.trans (h6.mono HB1.out.size)); replace H1 := Lib.hid (And.intro (H1.out.1.trans (same_below h6)) (H1.out.2.keep h6.block)); clear c0 c1 d0 d1 f0 f1 g0 g1; have c0 := cells_at H1.out.2.block 0; have c1 := cells_at H1.out.2.block 1; have d0 := cells_at H1.out.2.right.block 0; have d1 := cells_at H1.out.2.right.block 1; have f0 := thawed_at H1.out.2.block 0; have g0 := thawed_at H1.out.2.right.block 0; have g1 := thawed_at H1.out.2.right.block 1; have f1 := thawed_at H1.out.2.block 1; clear p0 p1 p2 p3 q0 q1 q2 q3; replace HP := Lib.hid ((h6.block P (Array.getElem?_eq_some_iff.1 HP.out).1).trans HP.out); have p0 := cells_at HP.out 0; have p1 := cells_at HP.out 1; have p2 := cells_at HP.out 2; have p3 := cells_at HP.out 3; clear h6)
        | (go_at_call 73; refine (HPT.out _ HB1.out).mono ?_; rintro e W7 ⟨v7, rfl, h7⟩; obtain ⟨a7, k7, rfl, _⟩ := h7.out.2.slice; have HCW := Lib.hid (And.intro H1.out.2.right.lt h7.out.2); replace H1 := Lib.hid (And.intro (H1.out.1.trans (same_below h7.out.1)) (H1.out.2.keep h7.out.1.block)); clear c0 c1 d0 d1 f0 f1 g0 g1; have c0 := cells_at H1.out.2.block 0; have c1 := cells_at H1.out.2.block 1; have d0 := cells_at H1.out.2.right.block 0; have d1 := cells_at H1.out.2.right.block 1; have f0 := thawed_at H1.out.2.block 0; have g0 := thawed_at H1.out.2.right.block 0; have g1 := thawed_at H1.out.2.right.block 1; have f1 := thawed_at H1.out.2.block 1; clear h7))
      clear p0 p1 p2 p3 hPb
      have hq := box_snd (.slice a7 LN.length k7) H1.out.1 H1.out.2
      have ho : ∀ k, k ≠ B → k ≠ B + 1 → (W7.setCell ⟨B, 1, none⟩ (.slice a7 LN.length k7)).heap[k]? = W7.heap[k]? := fun k h1 _ => heap_setCell_other _ _ _ _ h1
      have hz : W7.heap.size ≤ (W7.setCell ⟨B, 1, none⟩ (.slice a7 LN.length k7)).heap.size := by simp [World.setCell]
      generalize W7.setCell ⟨B, 1, none⟩ (.slice a7 LN.length k7) = W4 at hq ho hz ⊢
      replace H1 := hq
      have HO := Lib.hid (And.intro ho hz)
      clear c0 c1 d0 d1 f0 f1 g0 g1; have c0 := cells_at H1.out.2.block 0; have c1 := cells_at H1.out.2.block 1; have d0 := cells_at H1.out.2.right.block 0; have d1 := cells_at H1.out.2.right.block 1; have f0 := thawed_at H1.out.2.block 0; have g0 := thawed_at H1.out.2.right.block 0; have g1 := thawed_at H1.out.2.right.block 1; have f1 := thawed_at H1.out.2.block 1
      clear hq ho hz
      go_wp2
      have HF := box_res (.slice (some ⟨g, 0, none⟩) S.vols.length vc) (.slice a7 LN.length k7) H1.out.1 H1.out.2
      have hbf := two_below HF.out.1 HF.out.2
      have hzf : W7.heap.size ≤ ((W4.setCell ⟨B + 1, 0, none⟩ (.slice (some ⟨g, 0, none⟩) S.vols.length vc)).setCell ⟨B + 1, 1, none⟩ (.slice a7 LN.length k7)).heap.size := by have := HO.out.2; simpa [World.setCell] using this
      have hof : ∀ k, k ≠ B → k ≠ B + 1 → ((W4.setCell ⟨B + 1, 0, none⟩ (.slice (some ⟨g, 0, none⟩) S.vols.length vc)).setCell ⟨B + 1, 1, none⟩ (.slice a7 LN.length k7)).heap[k]? = W7.heap[k]? := fun k h1 h2 => ((heap_setCell_other _ _ _ _ h2).trans (heap_setCell_other _ _ _ _ h2)).trans (HO.out.1 k h1 h2)
      refine bodyPost_ret (results_c3 rfl rfl rfl rfl HF.out.2.right.block) rfl ?_
      rw [HR.out]
      refine ⟨_, _, rfl, hbf, ?_, ?_⟩
      · exact old_ref HS.out.1.v hbf
      · exact fin_ref hBB HCW.out.1 HCW.out.2 hzf hof

set_option maxRecDepth 20000 in
set_option maxHeartbeats 4000000 in
theorem rrestore_any {ok : Nat → Prop} (vv vs : Value) (S : SpaceM) (vol snap : Int) (w : World) (hS : RefAt ok w vv vs S) (hwf : S.WF) :
    Calls Tryz.prog 36 #[.agg #[vv, vs], .int .i64 vol, .int .i64 snap] w (RRes2 ok w (S.restore vol snap)) := by
  obtain ⟨va, vc, rfl, hvc, hvm⟩ := hS.v.slice
  obtain ⟨sa, sc, rfl, hsc, hsm⟩ := hS.s.slice
  unfold maxLen at hvm hsm
  have HS := Lib.hid (And.intro hS hwf)
  have hvl := hwf.vlen
  have hsl := hwf.slen
  have H0 : Hid (Same w ((w.alloc (.cells #[.slice va S.vols.length vc, .slice sa S.snaps.length sc] TRS)).alloc (.cells #[.slice none 0 0, .slice none 0 0] TRS)) ∧ Sat ((w.alloc (.cells #[.slice va S.vols.length vc, .slice sa S.snaps.length sc] TRS)).alloc (.cells #[.slice none 0 0, .slice none 0 0] TRS)) (pts w.heap.size (.cells #[.slice va S.vols.length vc, .slice sa S.snaps.length sc] TRS (0, 0)) * (pts (w.heap.size + 1) (.cells #[.slice none 0 0, .slice none 0 0] TRS (0, 0)) * old w))) := boxes_new w _ _
  have HB := Lib.hid ((Below.refl w.heap.size w))
  clear hS hwf
  go_enter Tryz.func36, Tryz.ntmps36
  go_upto_region 1 with (fail)
  replace H1 := H0
  clear H0
  generalize ((w.alloc (.cells #[.slice va S.vols.length vc, .slice sa S.snaps.length sc] TRS)).alloc (.cells #[.slice none 0 0, .slice none 0 0] TRS)) = W1 at H1 ⊢
  generalize hBB : w.heap.size = B at H1 ⊢
  have c0 := cells_at H1.out.2.block 0; have c1 := cells_at H1.out.2.block 1; have d0 := cells_at H1.out.2.right.block 0; have d1 := cells_at H1.out.2.right.block 1; have f0 := thawed_at H1.out.2.block 0; have g0 := thawed_at H1.out.2.right.block 0; have g1 := thawed_at H1.out.2.right.block 1; have f1 := thawed_at H1.out.2.block 1

  have hb1 : Below w.heap.size w W1 := two_below H1.out.1 H1.out.2
  have HAT := Lib.hid (fun (W : World) (hb : Below w.heap.size w W) => rat_any (.slice va S.vols.length vc) S.vols vol W (HS.out.1.v.below hb))
  have HB1 := Lib.hid hb1
  clear hb1
  have HAS := Lib.hid (fun (W : World) (hb : Below w.heap.size w W) => rat_any (.slice sa S.snaps.length sc) S.snaps snap W (HS.out.1.s.below hb))
  rcases atP_cases S.vols vol with ⟨hn, hi⟩ | ⟨p, hp, hi, hlt, hid⟩
  · have HR := Lib.hid (show S.restore vol snap = ⟨none, 0, 12⟩ by unfold SpaceM.restore SpaceM.change; split; rfl; rw [hn])
    rw [hi] at HAT
    clear hn hi
    go_upto_region 4 with (first | (go_at_call 51; with_reducible refine (HAT.out _ HB1.out).mono ?_; rintro e W2 ⟨rfl, h2⟩; replace HB1 := Lib.hid (HB1.out.trans (h2.mono HB1.out.size)); replace H1 := Lib.hid (And.intro (H1.out.1.trans (same_below h2)) (H1.out.2.keep h2.block)); clear c0 c1 d0 d1 f0 f1 g0 g1; have c0 := cells_at H1.out.2.block 0; have c1 := cells_at H1.out.2.block 1; have d0 := cells_at H1.out.2.right.block 0; have d1 := cells_at H1.out.2.right.block 1; have f0 := thawed_at H1.out.2.block 0; have g0 := thawed_at H1.out.2.right.block 0; have g1 := thawed_at H1.out.2.right.block 1; have f1 := thawed_at H1.out.2.block 1; clear h2) | (go_at_call 51; with_reducible refine (HAS.out _ HB1.out).mono ?_; rintro e W3 ⟨rfl, h3⟩; replace HB1 := Lib.hid (HB1.out.trans (h3.mono HB1.out.size)); replace H1 := Lib.hid (And.intro (H1.out.1.trans (same_below h3)) (H1.out.2.keep h3.block)); clear c0 c1 d0 d1 f0 f1 g0 g1; have c0 := cells_at H1.out.2.block 0; have c1 := cells_at H1.out.2.block 1; have d0 := cells_at H1.out.2.right.block 0; have d1 := cells_at H1.out.2.right.block 1; have f0 := thawed_at H1.out.2.block 0; have g0 := thawed_at H1.out.2.right.block 0; have g1 := thawed_at H1.out.2.right.block 1; have f1 := thawed_at H1.out.2.block 1; clear h3))
    go_wp2
    have HF := box_res (.slice none 0 0) (.slice none 0 0) H1.out.1 H1.out.2
    refine bodyPost_ret (results_c2 rfl rfl rfl HF.out.2.right.block) rfl ?_
    rw [HR.out]
    exact ⟨_, _, rfl, by subst hBB; exact two_below HF.out.1 HF.out.2, rfl, rfl⟩
  · rw [hi] at HAT
    rcases atP_cases S.snaps snap with ⟨hn, hi2⟩ | ⟨p2, hp2, hi2, hlt2, hid2⟩
    · have HR := Lib.hid (show S.restore vol snap = ⟨none, 0, 12⟩ by unfold SpaceM.restore; rw [hn])
      rw [hi2] at HAS
      generalize hk : atN S.vols vol = k at HAT
      have hneg : decide ((k : Int) < 0) = false := decide_eq_false (by omega)
      clear hp hi hlt hid hk hn hi2
      go_upto_region 4 with (first | (go_at_call 51; with_reducible refine (HAT.out _ HB1.out).mono ?_; rintro e W2 ⟨rfl, h2⟩; replace HB1 := Lib.hid (HB1.out.trans (h2.mono HB1.out.size)); replace H1 := Lib.hid (And.intro (H1.out.1.trans (same_below h2)) (H1.out.2.keep h2.block)); clear c0 c1 d0 d1 f0 f1 g0 g1; have c0 := cells_at H1.out.2.block 0; have c1 := cells_at H1.out.2.block 1; have d0 := cells_at H1.out.2.right.block 0; have d1 := cells_at H1.out.2.right.block 1; have f0 := thawed_at H1.out.2.block 0; have g0 := thawed_at H1.out.2.right.block 0; have g1 := thawed_at H1.out.2.right.block 1; have f1 := thawed_at H1.out.2.block 1; clear h2) | (go_at_call 51; with_reducible refine (HAS.out _ HB1.out).mono ?_; rintro e W3 ⟨rfl, h3⟩; replace HB1 := Lib.hid (HB1.out.trans (h3.mono HB1.out.size)); replace H1 := Lib.hid (And.intro (H1.out.1.trans (same_below h3)) (H1.out.2.keep h3.block)); clear c0 c1 d0 d1 f0 f1 g0 g1; have c0 := cells_at H1.out.2.block 0; have c1 := cells_at H1.out.2.block 1; have d0 := cells_at H1.out.2.right.block 0; have d1 := cells_at H1.out.2.right.block 1; have f0 := thawed_at H1.out.2.block 0; have g0 := thawed_at H1.out.2.right.block 0; have g1 := thawed_at H1.out.2.right.block 1; have f1 := thawed_at H1.out.2.block 1; clear h3))
      go_wp2
      have HF := box_res (.slice none 0 0) (.slice none 0 0) H1.out.1 H1.out.2
      refine bodyPost_ret (results_c2 rfl rfl rfl HF.out.2.right.block) rfl ?_
      rw [HR.out]
      exact ⟨_, _, rfl, by subst hBB; exact two_below HF.out.1 HF.out.2, rfl, rfl⟩
    · rw [hi2] at HAS
      obtain ⟨LN, hLN⟩ : ∃ LN, LN = S.vols.set (atN S.vols vol) { p with m := p2.m } := ⟨_, rfl⟩
      have HR := Lib.hid (show S.restore vol snap = ⟨some { S with vols := LN }, 0, 0⟩ by unfold SpaceM.restore SpaceM.change; rw [hp2, hp, hLN]; simp)
      obtain ⟨g, pa, pc, rfl, hg, e0, e1, e2, e3, hrow⟩ := part_at HS.out.1.v hp
      obtain ⟨g2, pa2, pc2, rfl, hg2, x0, x1, x2, x3, hrow2⟩ := part_at HS.out.1.s hp2
      have hwi := fun (W : World) (hb : Below w.heap.size w W) => rwith_any (.slice (some ⟨g, 0, none⟩) S.vols.length vc) S.vols (atN S.vols vol) p.id p.tenant p.src p2.m pa2 (items p2.m).length pc2 W (in_ref HS.out.1.v hb) (by omega) hlt (in_row hrow2 hb)
      rw [← hLN] at hwi
      have HWI := Lib.hid hwi
      have HE := Lib.hid (And.intro hg (And.intro e0 (And.intro e1 (And.intro e2 e3))))
      have HE2 := Lib.hid (And.intro hg2 x3)
      generalize hk : atN S.vols vol = k at *
      generalize hk2 : atN S.snaps snap = k2 at *
      generalize (items p.m).length = pn at *
      generalize (items p2.m).length = pn2 at *
      have hneg : decide ((k : Int) < 0) = false := decide_eq_false (by omega)
      have hneg2 : decide ((k2 : Int) < 0) = false := decide_eq_false (by omega)
      have hk63 : (k : Int) ≤ 64 := by omega
      have hk632 : (k2 : Int) ≤ 256 := by omega
      clear hp hp2 hi hi2 hid hid2 hwi hLN hk hk2 e0 e1 e2 e3 x0 x1 x2 x3 hrow hrow2 hg hg2
      go_upto_region 5 with (first | (go_at_call 51; with_reducible refine (HAT.out _ HB1.out).mono ?_; rintro e W2 ⟨rfl, h2⟩; replace HB1 := Lib.hid (HB1.out.trans (h2.mono HB1.out.size)); replace H1 := Lib.hid (And.intro (H1.out.1.trans (same_below h2)) (H1.out.2.keep h2.block)); clear c0 c1 d0 d1 f0 f1 g0 g1; have c0 := cells_at H1.out.2.block 0; have c1 := cells_at H1.out.2.block 1; have d0 := cells_at H1.out.2.right.block 0; have d1 := cells_at H1.out.2.right.block 1; have f0 := thawed_at H1.out.2.block 0; have g0 := thawed_at H1.out.2.right.block 0; have g1 := thawed_at H1.out.2.right.block 1; have f1 := thawed_at H1.out.2.block 1; clear h2) | (go_at_call 51; with_reducible refine (HAS.out _ HB1.out).mono ?_; rintro e W3 ⟨rfl, h3⟩; replace HB1 := Lib.hid (HB1.out.trans (h3.mono HB1.out.size)); replace H1 := Lib.hid (And.intro (H1.out.1.trans (same_below h3)) (H1.out.2.keep h3.block)); clear c0 c1 d0 d1 f0 f1 g0 g1; have c0 := cells_at H1.out.2.block 0; have c1 := cells_at H1.out.2.block 1; have d0 := cells_at H1.out.2.right.block 0; have d1 := cells_at H1.out.2.right.block 1; have f0 := thawed_at H1.out.2.block 0; have g0 := thawed_at H1.out.2.right.block 0; have g1 := thawed_at H1.out.2.right.block 1; have f1 := thawed_at H1.out.2.block 1; clear h3))
      have e0 := (HB1.out.cell (p := ⟨g, k * 4, none⟩) HE.out.1).trans HE.out.2.1
      have e1 := (HB1.out.cell (p := ⟨g, k * 4 + 1, none⟩) HE.out.1).trans HE.out.2.2.1
      have e2 := (HB1.out.cell (p := ⟨g, k * 4 + 2, none⟩) HE.out.1).trans HE.out.2.2.2.1
      have e3 := (HB1.out.cell (p := ⟨g, k * 4 + 3, none⟩) HE.out.1).trans HE.out.2.2.2.2
      go_upto_region 6 with (fail)
      have hq9 := H1.out.2.allocKeep (.cells #[.int .i64 p.id, .int .i64 p.tenant, .int .i64 p.src, .slice pa pn pc] TP)
      have c19 := cells_at hq9.block 1
      have x39 := ((HB1.out.alloc HB1.out.size (.cells #[.int .i64 p.id, .int .i64 p.tenant, .int .i64 p.src, .slice pa pn pc] TP)).cell (p := ⟨g2, k2 * 4 + 3, none⟩) HE2.out.1).trans HE2.out.2
      clear hq9
      go_upto_region 7 with (fail)
      have hbP := (Below.refl W3.heap.size W3).alloc (Nat.le_refl _) (.cells #[.int .i64 p.id, .int .i64 p.tenant, .int .i64 p.src, .slice pa2 pn2 pc2] TP)
      have hPb := heap_alloc_new W3 (.cells #[.int .i64 p.id, .int .i64 p.tenant, .int .i64 p.src, .slice pa2 pn2 pc2] TP)
      replace HB1 := Lib.hid (HB1.out.trans (hbP.mono HB1.out.size)); replace H1 := Lib.hid (And.intro (H1.out.1.trans (same_below hbP)) (H1.out.2.keep hbP.block)); clear c0 c1 d0 d1 f0 f1 g0 g1; have c0 := cells_at H1.out.2.block 0; have c1 := cells_at H1.out.2.block 1; have d0 := cells_at H1.out.2.right.block 0; have d1 := cells_at H1.out.2.right.block 1; have f0 := thawed_at H1.out.2.block 0; have g0 := thawed_at H1.out.2.right.block 0; have g1 := thawed_at H1.out.2.right.block 1; have f1 := thawed_at H1.out.2.block 1
      clear hbP e0 e1 e2 e3
      generalize W3.alloc (.cells #[.int .i64 p.id, .int .i64 p.tenant, .int .i64 p.src, .slice pa2 pn2 pc2] TP) = W5 at H1 HB1 hPb c0 c1 d0 d1 f0 f1 g0 g1 ⊢
      generalize W3.heap.size = P at hPb ⊢
      have p0 := cells_at hPb 0; have p1 := cells_at hPb 1; have p2 := cells_at hPb 2; have p3 := cells_at hPb 3
      have q0 := thawed_at hPb 0; have q1 := thawed_at hPb 1; have q2 := thawed_at hPb 2; have q3 := thawed_at hPb 3
      clear x39 c19
      go_upto_region 8 with (go_at_call 75; refine (HWI.out _ HB1.out).mono ?_; rintro e W7 ⟨v7, rfl, h7⟩; obtain ⟨a7, k7, rfl, _⟩ := h7.out.2.slice; have HCW := Lib.hid (And.intro H1.out.2.right.lt h7.out.2); replace H1 := Lib.hid (And.intro (H1.out.1.trans (same_below h7.out.1)) (H1.out.2.keep h7.out.1.block)); clear c0 c1 d0 d1 f0 f1 g0 g1; have c0 := cells_at H1.out.2.block 0; have c1 := cells_at H1.out.2.block 1; have d0 := cells_at H1.out.2.right.block 0; have d1 := cells_at H1.out.2.right.block 1; have f0 := thawed_at H1.out.2.block 0; have g0 := thawed_at H1.out.2.right.block 0; have g1 := thawed_at H1.out.2.right.block 1; have f1 := thawed_at H1.out.2.block 1; clear h7)
      clear p0 p1 p2 p3 q0 q1 q2 q3 hPb
      have hq := box_fst (.slice a7 LN.length k7) H1.out.1 H1.out.2
      have ho : ∀ k, k ≠ B → k ≠ B + 1 → (W7.setCell ⟨B, 0, none⟩ (.slice a7 LN.length k7)).heap[k]? = W7.heap[k]? := fun k h1 _ => heap_setCell_other _ _ _ _ h1
      have hz : W7.heap.size ≤ (W7.setCell ⟨B, 0, none⟩ (.slice a7 LN.length k7)).heap.size := by simp [World.setCell]
      generalize W7.setCell ⟨B, 0, none⟩ (.slice a7 LN.length k7) = W4 at hq ho hz ⊢
      replace H1 := hq
      have HO := Lib.hid (And.intro ho hz)
      clear c0 c1 d0 d1 f0 f1 g0 g1; have c0 := cells_at H1.out.2.block 0; have c1 := cells_at H1.out.2.block 1; have d0 := cells_at H1.out.2.right.block 0; have d1 := cells_at H1.out.2.right.block 1; have f0 := thawed_at H1.out.2.block 0; have g0 := thawed_at H1.out.2.right.block 0; have g1 := thawed_at H1.out.2.right.block 1; have f1 := thawed_at H1.out.2.block 1
      clear hq ho hz
      go_wp2
      have HF := box_res (.slice a7 LN.length k7) (.slice (some ⟨g2, 0, none⟩) S.snaps.length sc) H1.out.1 H1.out.2
      have hbf := two_below HF.out.1 HF.out.2
      have hzf : W7.heap.size ≤ ((W4.setCell ⟨B + 1, 0, none⟩ (.slice a7 LN.length k7)).setCell ⟨B + 1, 1, none⟩ (.slice (some ⟨g2, 0, none⟩) S.snaps.length sc)).heap.size := by have := HO.out.2; simpa [World.setCell] using this
      have hof : ∀ k, k ≠ B → k ≠ B + 1 → ((W4.setCell ⟨B + 1, 0, none⟩ (.slice a7 LN.length k7)).setCell ⟨B + 1, 1, none⟩ (.slice (some ⟨g2, 0, none⟩) S.snaps.length sc)).heap[k]? = W7.heap[k]? := fun k h1 h2 => ((heap_setCell_other _ _ _ _ h2).trans (heap_setCell_other _ _ _ _ h2)).trans (HO.out.1 k h1 h2)
      refine bodyPost_ret (results_c2 rfl rfl rfl HF.out.2.right.block) rfl ?_
      rw [HR.out]
      refine ⟨_, _, rfl, hbf, ?_, ?_⟩
      · exact fin_ref hBB HCW.out.1 HCW.out.2 hzf hof
      · exact old_ref HS.out.1.s hbf
end Go.Proofs.YtednjhlkhecihaaGreatDoor
