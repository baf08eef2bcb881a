/- solventlaw28.build: the space and the specified space that a script leads to. -/
import Derived.Test.YtmgcgdkndkibgaaGreatAf
import Derived.Test.YtmgcgdkndkibgaaGreatWo
namespace Go.Proofs.YtmgcgdkndkibgaaGreat
open Go.RowKit Go.Vol Go.Sl

theorem node_box {T T' : TypeId} {ok : Nat → Prop} {w w' : World} {g : Nat} {c : Array Value} {fr : Nat × Nat} (hg : w.heap[g]? = some (.cells c T' fr)) (hT : T' ≠ T) (hk : ∀ k, k ≠ g → w'.heap[k]? = w.heap[k]?) : ∀ {L : Nat} {v : Value} {m : MapM}, NodeOk T ok w L v m → NodeOk T ok w' L v m
  | 0, v, m, h => by
    rcases h with h | ⟨b, h1, h2, h3, h4⟩
    · exact .inl h
    · refine .inr ⟨b, h1, h2, ?_, h4⟩
      rw [hk b]
      · exact h3
      · rintro rfl
        rw [hg] at h3
        simp only [Option.some.injEq, Obj.cells.injEq] at h3
        exact hT h3.2.1
  | L + 1, v, m, h => by
    rcases h with h | ⟨b, kids, h1, h2, h3, h4, h5, h6⟩
    · exact .inl h
    · refine .inr ⟨b, kids, h1, h2, h3, ?_, fun j k hj => node_box hg hT hk (h5 j k hj), h6⟩
      rw [hk b]
      · exact h4
      · rintro rfl
        rw [hg] at h4
        simp only [Option.some.injEq, Obj.cells.injEq] at h4
        exact hT h4.2.1
theorem rows_box {w w' : World} {g : Nat} {c : Array Value} {T' : TypeId} {fr : Nat × Nat} {v : Value} {n : Nat} {L : List Value} (hg : w.heap[g]? = some (.cells c T' fr)) (hc : ∀ i, c[0]? ≠ some (.int .i64 i)) (hk : ∀ k, k ≠ g → w'.heap[k]? = w.heap[k]?) (hs : w.heap.size ≤ w'.heap.size) (hL : 0 < n → ∃ i, L[0]? = some (.int .i64 i)) (h : RowsAt w v n L) : RowsAt w' v n L := by
  obtain ⟨ao, cap, h1, h2, h3, h4⟩ := h
  refine ⟨ao, cap, h1, h2, h3, fun hn => ?_⟩
  obtain ⟨b, e, hb, hcell⟩ := h4 hn
  have hne : b ≠ g := by
    rintro rfl
    obtain ⟨i, hi⟩ := hL hn
    have h5 := hcell 0 _ hi
    simp only [World.cell?, hg] at h5
    exact hc i (by simpa using h5)
  refine ⟨b, e, by omega, fun j u hu => ?_⟩
  rw [World.cell?_of_block (w := w) (hk b hne)]
  exact hcell j u hu
/-- A space stays when a box of slices is written. -/
theorem space_box {w w' : World} {p : Nat} {S : SpaceM} {g : Nat} {a b : Value} (hg : w.heap[g]? = some (.cells #[a, b] TRS (0, 0))) (ha : ∀ i, a ≠ .int .i64 i) (hk : ∀ k, k ≠ g → w'.heap[k]? = w.heap[k]?) (hs : w.heap.size ≤ w'.heap.size) (h : SpaceAt TNode TSp w p S) : SpaceAt TNode TSp w' p S := by
  obtain ⟨lv, ls, h1, h2, ⟨vv, vs, h3, h4, h5⟩, h6, h7⟩ := h
  have hc : ∀ i, (#[a, b] : Array Value)[0]? ≠ some (.int .i64 i) := fun i e => ha i (by simpa using e)
  refine ⟨lv, ls, h1, h2, ⟨vv, vs, ?_, rows_box hg hc hk hs (fun hn => ?_) h4, rows_box hg hc hk hs (fun hn => ?_) h5⟩, fun x hx => node_box hg (by decide) hk (h6 x hx), fun x hx => node_box hg (by decide) hk (h7 x hx)⟩
  · rw [hk p]
    · exact h3
    · rintro rfl
      rw [hg] at h3
      simp only [Option.some.injEq, Obj.cells.injEq] at h3
      exact absurd h3.2.1 (by decide)
  · cases lv with
    | nil => exact absurd hn (by simp)
    | cons x r => exact ⟨x.1.id, rfl⟩
  · cases ls with
    | nil => exact absurd hn (by simp)
    | cons x r => exact ⟨x.1.id, rfl⟩
theorem box_there {w : World} {g : Nat} {a b : Value} {T : TypeId} (h : w.heap[g]? = some (.cells #[a, b] T (0, 0))) : w.there g 0 2 := by
  intro j hj
  have h1 := cells_at h
  have h2 := thawed_at h
  rw [Nat.zero_add]
  refine ⟨?_, h2 j⟩
  rw [h1 j]
  match j, hj with
  | 0, _ => simp
  | 1, _ => simp
theorem box_set {w : World} {g : Nat} {a b : Value} {T : TypeId} (h : w.heap[g]? = some (.cells #[a, b] T (0, 0))) (x y : Value) : ((w.setCell ⟨g, 0, none⟩ x).setCell ⟨g, 1, none⟩ y).heap[g]? = some (.cells #[x, y] T (0, 0)) := by
  simp [World.setCell, Array.getElem?_modify, h]
theorem results_pcb {fn : Func} {p u v : Tmp} {g : Nat} {a b x y : Value} {t : TypeId} {tmps : Array Value} {w : World} (h : fn.results = #[.tmp u, .cell p TRS, .tmp v]) (hp : tmps.getD p undef = .pointer (some ⟨g, 0, none⟩)) (hu : tmps.getD u undef = x) (hv : tmps.getD v undef = y) (hg : w.heap[g]? = some (.cells #[a, b] t (0, 0))) :
    (results fn tmps).run Tryz.prog w = .ok (.tuple #[x, .agg #[a, b], y]) w := by
  have hp' : tmps[p]?.getD undef = .pointer (some ⟨g, 0, none⟩) := by simpa using hp
  have hu' : tmps[u]?.getD undef = x := by simpa using hu
  have hv' : tmps[v]?.getD undef = y := by simpa using hv
  simp [results, h, hp', hu', hv', asAddr, load_RS hg]
def runU (S : SpaceM) (l : List VOp) : SpaceM := l.foldl doM S
theorem runU_take {l : List VOp} {k : Nat} {o : VOp} (h : l[k]? = some o) (S : SpaceM) : runU S (l.take (k + 1)) = doM (runU S (l.take k)) o := by
  unfold runU
  rw [List.take_add_one, h, List.foldl_append]; rfl
theorem runU_wf {S : SpaceM} (h : S.WF) : ∀ l : List VOp, (runU S l).WF := by
  intro l
  induction l generalizing S with
  | nil => exact h
  | cons o r ih => exact ih (do_wf h)
def nilV : Value := .slice none 0 0
/-- The two boxes of build. -/
def Bx (w W : World) (B G : Nat) (a b : Value) : Prop := Same w W ∧ Sat W (pts B (.cells #[nilV, nilV] TRS (0, 0)) * (pts G (.cells #[a, b] TRS (0, 0)) * old w))
theorem Bx.below {w W : World} {B G : Nat} {a b : Value} (h : Bx w W B G a b) : Below w.heap.size w W := h.1.below_of (h.2.perm (star_assoc _ _ _).symm)
theorem Bx.next {w W W' : World} {B G : Nat} {a b : Value} (h : Bx w W B G a b) (hb : Below W.heap.size W W') : Bx w W' B G a b := ⟨h.1.trans (same_below hb), h.2.keep hb.block⟩
theorem Bx.set {w W : World} {B G : Nat} {a b : Value} (h : Bx w W B G a b) (x y : Value) : Bx w ((W.setCell ⟨G, 0, none⟩ x).setCell ⟨G, 1, none⟩ y) B G x y :=
  ⟨(h.1.setCell _ _).setCell _ _, by
    have h1 := h.2.perm (show _ = pts G (.cells #[a, b] TRS (0, 0)) * (pts B (.cells #[nilV, nilV] TRS (0, 0)) * old w) from by ac_rfl)
    exact ((h1.setCell (i := 0) x).setCell (i := 1) y).perm (by show pts G (.cells #[x, y] TRS (0, 0)) * _ = _; ac_rfl)⟩
theorem Bx.g {w W : World} {B G : Nat} {a b : Value} (h : Bx w W B G a b) : W.heap[G]? = some (.cells #[a, b] TRS (0, 0)) := h.2.right.block
structure BdSt (w : World) (l : List VOp) (B G : Nat) (v5 v21 : Value) (wr : World) : Prop where
  st : ∃ (k p : Nat) (a b : Value), k ≤ l.length ∧ v21 = .int .i64 (k : Int) ∧ v5 = .pointer (some ⟨p, 0, none⟩) ∧ Hid (Bx w wr B G a b ∧ SpaceAt TNode TSp wr p (runU SpaceM.new (l.take k)) ∧ RefAt (fun x => G < x) wr a b (runU SpaceM.new (l.take k)))
theorem ref_new (ok : Nat → Prop) (w : World) : RefAt ok w nilV nilV SpaceM.new := ⟨RefL.nil ok w, RefL.nil ok w⟩
set_option maxRecDepth 20000 in
set_option maxHeartbeats 4000000 in
theorem build_any (sv : Value) (l : List VOp) (w : World) (hscr : ScrV w sv l) (hl : l.length ≤ 80) :
    Calls Tryz.prog 9 #[sv] w fun e w' => ∃ (p : Nat) (a b : Value), e = .returned (.tuple #[.pointer (some ⟨p, 0, none⟩), .agg #[a, b], .bool true]) ∧ Hid (Below w.heap.size w w' ∧ SpaceAt TNode TSp w' p (runU SpaceM.new l) ∧ RefAt (fun x => w.heap.size ≤ x) w' a b (runU SpaceM.new l)) := by
  obtain ⟨ao, cap, rfl, hm, hc⟩ := hscr
  have HC := Lib.hid hc
  have hld : decide ((80 : Int) < (l.length : Int)) = false := decide_eq_false (by omega)
  have H0 := Lib.hid (show Same w (w.alloc (.cells #[nilV, nilV] TRS)) ∧ Sat (w.alloc (.cells #[nilV, nilV] TRS)) (pts w.heap.size (.cells #[nilV, nilV] TRS (0, 0)) * old w) from ⟨(Same.refl w).alloc _, (Sat.old w).alloc _⟩)
  clear hc
  go_enter Tryz.func9, Tryz.ntmps9
  go_wp2_with (go_at_call 34; refine (new_any _).mono ?_; rintro e w1 ⟨p0, rfl, h1⟩)
  have hb1 := h1.out.1
  have hsz : w.heap.size < w1.heap.size := by have := hb1.size; rw [World.size_alloc] at this; omega
  have H1 := Lib.hid (show Bx w (w1.alloc (.cells #[nilV, nilV] TRS)) w.heap.size w1.heap.size nilV nilV from ⟨(H0.out.1.trans (same_below hb1)).alloc _, ((H0.out.2.keep hb1.block).alloc (.cells #[nilV, nilV] TRS)).perm (by ac_rfl)⟩)
  have hst : BdSt w l w.heap.size w1.heap.size (.pointer (some ⟨p0, 0, none⟩)) (.int .i64 0) (w1.alloc (.cells #[.slice none 0 0, .slice none 0 0] TRS)) :=
    ⟨⟨0, p0, nilV, nilV, Nat.zero_le _, rfl, rfl, H1.out, h1.out.2.below ((Below.refl _ _).alloc (Nat.le_refl _) _), ref_new _ _⟩⟩
  have HST := Lib.hid hst
  have HSZ := Lib.hid hsz
  clear hst h1 H0 H1 hb1 hsz
  generalize w1.alloc (.cells #[.slice none 0 0, .slice none 0 0] TRS) = w2 at HST ⊢
  generalize w1.heap.size = G at HST HSZ ⊢
  go_loopw [5, 21] (fun v5 v21 wr => BdSt w l w.heap.size G v5 v21 wr) (fun _ v21 _ => l.length - (intOf v21).toNat)
  case atStart => exact HST.out
  case round =>
    obtain ⟨k, p, a, b, hk, rfl, rfl, HS⟩ := hrel.st
    clear hrel HST
    obtain ⟨va, vc, rfl, _⟩ := HS.out.2.2.v.slice
    obtain ⟨sa, sc, rfl, _⟩ := HS.out.2.2.s.slice
    have hki : (k : Int) ≤ 80 := by omega
    have hb0 := HS.out.1.below
    by_cases hlt : k < l.length
    · have hltd : decide ((k : Int) < (l.length : Int)) = true := decide_eq_true (by omega)
      obtain ⟨o, ho⟩ : ∃ o, l[k]? = some o := ⟨_, List.getElem?_eq_getElem hlt⟩
      obtain ⟨g, off, rfl, hcell⟩ := HC.out (by rintro rfl; simp at hlt)
      have hcw := fun i u hu => (hb0.cell (World.block_lt_of_cell? _ _ (hcell k o ho i u hu))).trans (hcell k o ho i u hu)
      have c0 := hcw 0 _ rfl; have c1 := hcw 1 _ rfl; have c2 := hcw 2 _ rfl; have c3 := hcw 3 _ rfl
      rw [Nat.add_zero] at c0
      have HWF := Lib.hid (runU_wf SpaceM.WF.new (l.take k))
      have HTK := Lib.hid (runU_take ho SpaceM.new)
      obtain ⟨od, oa, ob, oc⟩ := o
      clear hcell hcw ho hb0
      generalize runU SpaceM.new (l.take k) = S at HS HWF HTK ⊢
      go_upto_region 7 with (fail)
      have hal : Below wr.heap.size wr (wr.alloc (.cells #[.int .i64 od, .int .i64 oa, .int .i64 ob, .int .i64 oc] TOp28)) := (Below.refl _ _).alloc (Nat.le_refl _) _
      have HX := Lib.hid (show Bx w (wr.alloc (.cells #[.int .i64 od, .int .i64 oa, .int .i64 ob, .int .i64 oc] TOp28)) w.heap.size G (.slice va S.vols.length vc) (.slice sa S.snaps.length sc) ∧ (wr.alloc (.cells #[.int .i64 od, .int .i64 oa, .int .i64 ob, .int .i64 oc] TOp28)).heap[wr.heap.size]? = some (.cells #[.int .i64 od, .int .i64 oa, .int .i64 ob, .int .i64 oc] TOp28 (0, 0)) from ⟨HS.out.1.next hal, heap_alloc_new _ _⟩)
      have HY := Lib.hid (show SpaceAt TNode TSp (wr.alloc (.cells #[.int .i64 od, .int .i64 oa, .int .i64 ob, .int .i64 oc] TOp28)) p S from HS.out.2.1.below hal)
      have HR := Lib.hid (show RefAt (fun x => G < x) (wr.alloc (.cells #[.int .i64 od, .int .i64 oa, .int .i64 ob, .int .i64 oc] TOp28)) (.slice va S.vols.length vc) (.slice sa S.snaps.length sc) S from HS.out.2.2.below hal)
      clear hal HS c0 c1 c2 c3
      generalize wr.alloc (.cells #[.int .i64 od, .int .i64 oa, .int .i64 ob, .int .i64 oc] TOp28) = W0 at HX HY HR ⊢
      generalize wr.heap.size = C at HX ⊢
      have HD := Lib.hid (lawdo_any p S ⟨od, oa, ob, oc⟩ W0 HY.out HWF.out)
      have x0 := cells_at HX.out.2 0; have x1 := cells_at HX.out.2 1; have x2 := cells_at HX.out.2 2; have x3 := cells_at HX.out.2 3
      go_upto_region 8 with (go_at_call 31; refine HD.out.mono ?_; rintro e W1 ⟨p', rfl, h2⟩)
      clear x0 x1 x2 x3 HD HY
      have HX1 := Lib.hid (show Bx w W1 w.heap.size G (.slice va S.vols.length vc) (.slice sa S.snaps.length sc) ∧ W1.heap[C]? = some (.cells #[.int .i64 od, .int .i64 oa, .int .i64 ob, .int .i64 oc] TOp28 (0, 0)) from ⟨HX.out.1.next h2.out.1, by rw [h2.out.1.block C (Array.getElem?_eq_some_iff.1 HX.out.2).1]; exact HX.out.2⟩)
      have HY1 := Lib.hid h2.out.2
      have HR1 := Lib.hid (HR.out.below h2.out.1)
      clear h2 HX HR
      have x0 := cells_at HX1.out.2 0; have x1 := cells_at HX1.out.2 1; have x2 := cells_at HX1.out.2 2; have x3 := cells_at HX1.out.2 3
      have g0 := cells_at HX1.out.1.g 0; have g1 := cells_at HX1.out.1.g 1
      have f0 := thawed_at HX1.out.1.g 0; have f1 := thawed_at HX1.out.1.g 1
      have HD := Lib.hid (rspec_any (.slice va S.vols.length vc) (.slice sa S.snaps.length sc) S ⟨od, oa, ob, oc⟩ W1 HR1.out HWF.out)
      have HG := Lib.hid (Array.getElem?_eq_some_iff.1 HX1.out.1.g).1
      go_upto_region 9 with (go_at_call 35; refine HD.out.mono ?_; rintro e W2 ⟨a', b', rfl, h3⟩; obtain ⟨va', vc', rfl, _⟩ := (show RefAt _ _ _ _ _ from h3.out.2).v.slice; obtain ⟨sa', sc', rfl, _⟩ := (show RefAt _ _ _ _ _ from h3.out.2).s.slice; have HX2 := Lib.hid (HX1.out.1.next h3.out.1); clear x0 x1 x2 x3 g0 g1 f0 f1; have g0 := cells_at HX2.out.g 0; have g1 := cells_at HX2.out.g 1; have f0 := thawed_at HX2.out.g 0; have f1 := thawed_at HX2.out.g 1)
      generalize hT : doM S ⟨od, oa, ob, oc⟩ = T at h3 HY1 HTK ⊢
      have hbx := HX2.out.set (.slice va' T.vols.length vc') (.slice sa' T.snaps.length sc')
      have hkp : ∀ k, k ≠ G → ((W2.setCell ⟨G, 0, none⟩ (.slice va' T.vols.length vc')).setCell ⟨G, 1, none⟩ (.slice sa' T.snaps.length sc')).heap[k]? = W2.heap[k]? := fun k h2 => (heap_setCell_other _ _ _ _ h2).trans (heap_setCell_other _ _ _ _ h2)
      have hzz : W2.heap.size ≤ ((W2.setCell ⟨G, 0, none⟩ (.slice va' T.vols.length vc')).setCell ⟨G, 1, none⟩ (.slice sa' T.snaps.length sc')).heap.size := by simp [World.setCell]
      have hsp := space_box HX2.out.g (fun i e => by cases e) hkp hzz (HY1.out.below h3.out.1)
      have hrf : RefAt (fun x => G < x) ((W2.setCell ⟨G, 0, none⟩ (.slice va' T.vols.length vc')).setCell ⟨G, 1, none⟩ (.slice sa' T.snaps.length sc')) (.slice va' T.vols.length vc') (.slice sa' T.snaps.length sc') T :=
        (h3.out.2.weaken (ok' := fun x => G < x) fun x hx _ => by rcases hx with hx | hx; exact hx; have := HG.out; omega).keep hzz fun x hx _ => hkp x (by have : G < x := hx; omega)
      have HF := Lib.hid (And.intro hbx (And.intro hsp hrf))
      clear hbx hkp hzz hsp hrf h3 g0 g1 f0 f1 HX2 HX1
      generalize (W2.setCell ⟨G, 0, none⟩ (.slice va' T.vols.length vc')).setCell ⟨G, 1, none⟩ (.slice sa' T.snaps.length sc') = W3 at HF ⊢
      have hwr1 : IntKind.i64.wrap ((k : Int) + 1) = (k : Int) + 1 := IntWalk.i64_in _ (by omega)
      go_wp2
      go_roundw
      case rel => exact ⟨⟨k + 1, p', _, _, hlt, rfl, rfl, by rw [HTK.out]; exact HF.out⟩⟩
      case measure => simp only [intOf]; omega
    · obtain rfl : k = l.length := by omega
      have hltd : decide ((l.length : Int) < (l.length : Int)) = false := decide_eq_false (by omega)
      rw [List.take_length] at HS
      obtain ⟨S, hSe⟩ : ∃ S, runU SpaceM.new l = S := ⟨_, rfl⟩
      rw [hSe] at HS
      have HSE := Lib.hid hSe
      clear hb0 hlt hSe
      have hB : wr.heap[w.heap.size]? = some (.cells #[nilV, nilV] TRS (0, 0)) := HS.out.1.2.block
      have HBB := Lib.hid hB
      clear hB
      have hS0 : (wr.drew).rangeAt G 0 [.slice va S.vols.length vc, .slice sa S.snaps.length sc] := by
        have h1 := cells_at HS.out.1.g
        intro j x hx
        rw [show wr.drew.cell? ⟨G, 0 + j, none⟩ = wr.cell? ⟨G, 0 + j, none⟩ from rfl, h1, Nat.zero_add]
        simpa using hx
      go_upto_region 10 with (fail)
      refine reg_begin (fun w' => w'.rangeAt G 0 [.slice va S.vols.length vc, .slice sa S.snaps.length sc]) (by kernel_rfl) ?_
      have hB2 : wr.drew.heap[w.heap.size]? = some (.cells #[nilV, nilV] TRS (0, 0)) := HBB.out
      have hkp : ∀ k, k ≠ w.heap.size → ((wr.drew.setCell ⟨w.heap.size, 0, none⟩ (.slice va S.vols.length vc)).setCell ⟨w.heap.size, 1, none⟩ (.slice sa S.snaps.length sc)).heap[k]? = wr.heap[k]? := fun k h2 => (heap_setCell_other _ _ _ _ h2).trans (heap_setCell_other _ _ _ _ h2)
      have hS1 : ((wr.drew.setCell ⟨w.heap.size, 0, none⟩ (.slice va S.vols.length vc)).setCell ⟨w.heap.size, 1, none⟩ (.slice sa S.snaps.length sc)).rangeAt G 0 [.slice va S.vols.length vc, .slice sa S.snaps.length sc] := by
        intro j x hx
        rw [World.cell?_of_block (w := wr) (hkp G (by have := HSZ.out; omega))]
        exact hS0 j x hx
      (apply reg_take 0 rfl rfl (by decide +kernel) rfl); (rintro w' h1; go_simp; rfl); exact hS0; simp only [List.setIfInBounds_toArray, List.set_cons_succ, List.set_cons_zero]
      refine reg_take 1 (v := .agg #[.slice va S.vols.length vc, .slice sa S.snaps.length sc]) rfl rfl (by decide +kernel) rfl (fun w' h => exec_load rfl rfl (run_loadAt_mid w' G 0 TRS _ _ h Tryz.underlying26 rfl (by kernel_rfl))) hS0 ?_; simp only [List.setIfInBounds_toArray, List.set_cons_succ, List.set_cons_zero]
      (apply reg_take 2 rfl rfl (by decide +kernel) rfl); (rintro w' h1; go_simp; rfl); exact hS0; simp only [List.setIfInBounds_toArray, List.set_cons_succ, List.set_cons_zero]
      refine reg_do 3 ((wr.drew.setCell ⟨w.heap.size, 0, none⟩ (.slice va S.vols.length vc)).setCell ⟨w.heap.size, 1, none⟩ (.slice sa S.snaps.length sc)) rfl rfl (by decide +kernel) rfl (exec_store rfl rfl rfl (run_storeAt_mid wr.drew w.heap.size 0 TRS #[.slice va S.vols.length vc, .slice sa S.snaps.length sc] (box_there hB2) (by kernel_rfl) (by simp [Value.oneCell']))) (hS1) ?_
      (apply reg_take 4 rfl rfl (by decide +kernel) rfl); (rintro w' h1; go_simp; rfl); exact hS1; simp only [List.setIfInBounds_toArray, List.set_cons_succ, List.set_cons_zero]
      refine reg_done (by decide +kernel) ?_
      go_wp2
      have hbox := box_set hB2 (.slice va S.vols.length vc) (.slice sa S.snaps.length sc)
      refine bodyPost_ret (results_pcb rfl rfl rfl rfl hbox) rfl ?_
      have hzz : wr.heap.size ≤ ((wr.drew.setCell ⟨w.heap.size, 0, none⟩ (.slice va S.vols.length vc)).setCell ⟨w.heap.size, 1, none⟩ (.slice sa S.snaps.length sc)).heap.size := by
        show wr.drew.heap.size ≤ _
        simp [World.setCell]
      rw [HSE.out]
      refine ⟨p, _, _, rfl, ?_, space_box HBB.out (fun i e => by cases e) hkp hzz HS.out.2.1, (HS.out.2.2.keep hzz fun x hx _ => hkp x (by have : G < x := hx; have := HSZ.out; omega)).weaken fun x hx _ => by have : G < x := hx; have := HSZ.out; omega⟩
      have hbb := HS.out.1.below
      exact ⟨hbb.os, hbb.tape, hbb.output, by have := hbb.size; omega, fun k hk => by rw [hkp k (by omega)]; exact hbb.block k hk⟩
end Go.Proofs.YtmgcgdkndkibgaaGreat
