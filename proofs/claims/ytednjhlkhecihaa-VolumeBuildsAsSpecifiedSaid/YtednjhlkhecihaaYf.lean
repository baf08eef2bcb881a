/- solventref27.Build; a list of contents as an argument. Printed by zj27.py. -/
import Derived.Test.YtednjhlkhecihaaYg
import Derived.Test.YtednjhlkhecihaaYh
import Derived.Test.YtednjhlkhecihaaWo
namespace Go.Proofs.Ytednjhlkhecihaa
open Go.RowKit Go.Vol Go.Sl Go.ChangeMaps

theorem load_RS2 {w : World} {g : Nat} {a b : Value} {t : TypeId} (h : w.heap[g]? = some (.cells #[a, b] t (0, 0))) : (loadVar TRS ⟨g, 0, none⟩).run Try.prog w = .ok (.agg #[a, b]) w :=
  run_loadVar_row w g t TRS #[a, b] (0, 0) _ h Try.underlying59 rfl (by kernel_rfl)
theorem results_d2 {fn : Func} {p u : Tmp} {g : Nat} {a b x : Value} {t : TypeId} {tmps : Array Value} {w : World} (h : fn.results = #[.cell p TRS, .tmp u]) (hp : tmps.getD p undef = .pointer (some ⟨g, 0, none⟩)) (hu : tmps.getD u undef = x) (hg : w.heap[g]? = some (.cells #[a, b] t (0, 0))) :
    (results fn tmps).run Try.prog w = .ok (.tuple #[.agg #[a, b], x]) w := by
  have hp' : tmps[p]?.getD undef = .pointer (some ⟨g, 0, none⟩) := by simpa using hp
  have hu' : tmps[u]?.getD undef = x := by simpa using hu
  simp [results, h, hp', hu', asAddr, load_RS2 hg]
theorem parts_ok {f : Bool} (v : Value) (l : List ElC) (most : Int) (w : World) (hc : CntL w v l) (hn : l.length ≤ 20) (hmx : ∀ x ∈ l, x.1.maps.length ≤ 40) (hv : validP f most l) :
    Calls Try.prog 63 #[v, .int .i64 most, .bool f] w fun e w' => ∃ v', e = .returned (.tuple #[v', .bool true]) ∧ Hid (Below w.heap.size w w' ∧ RefLO w' v' (l.map fun x => toPart f x.1)) := by
  cases f
  · refine (parts_f v l most w hc hn hmx).mono fun e w' h => ?_
    rcases h.out.2 with ⟨_, v', h1, h2⟩ | ⟨h1, _⟩
    · exact ⟨v', h1, h.out.1, h2⟩
    · exact absurd hv h1
  · refine (parts_t v l most w hc hn hmx).mono fun e w' h => ?_
    rcases h.out.2 with ⟨_, v', h1, h2⟩ | ⟨h1, _⟩
    · exact ⟨v', h1, h.out.1, h2⟩
    · exact absurd hv h1
theorem parts_no {f : Bool} (v : Value) (l : List ElC) (most : Int) (w : World) (hc : CntL w v l) (hn : l.length ≤ 20) (hmx : ∀ x ∈ l, x.1.maps.length ≤ 40) (hv : ¬ validP f most l) :
    Calls Try.prog 63 #[v, .int .i64 most, .bool f] w fun e w' => e = .returned (.tuple #[.slice none 0 0, .bool false]) ∧ Below w.heap.size w w' := by
  cases f
  · refine (parts_f v l most w hc hn hmx).mono fun e w' h => ?_
    rcases h.out.2 with ⟨h1, _⟩ | ⟨_, h1⟩
    · exact absurd h1 hv
    · exact ⟨h1, h.out.1⟩
  · refine (parts_t v l most w hc hn hmx).mono fun e w' h => ?_
    rcases h.out.2 with ⟨h1, _⟩ | ⟨_, h1⟩
    · exact absurd h1 hv
    · exact ⟨h1, h.out.1⟩
theorem valid_both {A B : List ElC} : validS (A.map Prod.fst) (B.map Prod.fst) ↔ validP false 64 A ∧ validP true 256 B := by
  unfold validS validP
  constructor
  · rintro ⟨h1, h2, h3⟩
    exact ⟨⟨h1, fun h => by cases h⟩, h2, fun _ x hx => h3 x.1 (List.mem_map.2 ⟨x, hx, rfl⟩)⟩
  · rintro ⟨⟨h1, _⟩, h2, h3⟩
    refine ⟨h1, h2, fun x hx => ?_⟩
    obtain ⟨y, hy, rfl⟩ := List.mem_map.1 hx
    exact h3 rfl y hy
/-- What the specified Build answers. -/
def RBuildOut (A B : List ElC) (e : Ending) (w' : World) : Prop :=
  (validS (A.map Prod.fst) (B.map Prod.fst) ∧ ∃ a b, e = .returned (.tuple #[.agg #[a, b], .int .i64 0]) ∧ RefAtO w' a b (spaceC (A.map Prod.fst) (B.map Prod.fst))) ∨
  (¬ validS (A.map Prod.fst) (B.map Prod.fst) ∧ e = .returned (.tuple #[.agg #[.slice none 0 0, .slice none 0 0], .int .i64 1]))

theorem RowsO.noBox {w w' : World} {v : Value} {n N : Nat} {Lr : List Value} {x c : Nat} {a : Option Addr} {y : Value} {T : TypeId} (h : RowsO w v n Lr) (hL : 0 < n → ∃ i j : Int, Lr[0]? = some (.int .i64 i) ∧ Lr[1]? = some (.int .i64 j)) (hR : w.heap[N]? = some (.cells #[.slice a x c, y] T (0, 0)))
    (hs : w.heap.size ≤ w'.heap.size) (hy : ∀ j : Int, y ≠ .int .i64 j) (hk : ∀ k, k ≠ N → w'.heap[k]? = w.heap[k]?) : RowsO w' v n Lr := by
  obtain ⟨ao, cap, h1, h2, h4⟩ := h
  refine ⟨ao, cap, h1, h2, fun hn => ?_⟩
  obtain ⟨b, off, h5, h6, h7⟩ := h4 hn
  obtain ⟨i, j, hi, hj⟩ := hL hn
  have hne : b ≠ N := by
    intro e
    have h8 := h7 0 _ hi
    rw [e, Nat.add_zero, cells_at hR] at h8
    match off, h8 with
    | 0, h8 => simp at h8
    | 1, h8 => simp at h8; exact hy _ h8
    | off + 2, h8 => simp at h8
  exact ⟨b, off, h5, by omega, fun j u hu => by rw [World.cell?_of_block (w := w) (hk b hne)]; exact h7 j u hu⟩
theorem refLO_noBox {w w' : World} {v : Value} {N : Nat} {L : List PartM} (h : RefLO w v L) (hR : w.heap[N]? = some (.cells #[.slice none 0 0, .slice none 0 0] TRS (0, 0)))
    (hs : w.heap.size ≤ w'.heap.size) (hk : ∀ k, k ≠ N → w'.heap[k]? = w.heap[k]?) : RefLO w' v L := by
  obtain ⟨l, h1, h2, h3⟩ := h
  refine ⟨l, h1, ?_, fun x hx => ?_⟩
  · obtain ⟨ao, cap, e1, e2, e3, e4⟩ := h2
    refine ⟨ao, cap, e1, e2, e3, fun hn => ?_⟩
    obtain ⟨b, e5, e6, e7, e8⟩ := e4 hn
    have hne : b ≠ N := by
      intro e
      cases l with
      | nil => simp at hn
      | cons z r =>
        have h8 := e8 0 (.int .i64 z.1.id) (by simp [rpE])
        rw [e, cells_at hR] at h8
        simp at h8
    exact ⟨b, e5, trivial, by omega, fun j u hu => by rw [World.cell?_of_block (w := w) (hk b hne)]; exact e8 j u hu⟩
  · refine RowsO.noBox (h3 x hx) (fun hn => ?_) hR hs (fun j => by simp) hk
    cases hi : items x.1.m with
    | nil => rw [hi] at hn; simp at hn
    | cons z r => exact ⟨z.1, z.2, by simp [refE], by simp [refE]⟩

set_option maxRecDepth 20000 in
set_option maxHeartbeats 4000000 in
theorem rbuild_any (va vb : Value) (A B : List ElC) (w : World) (hA : CntL w va A) (hB : CntL w vb B) (hnA : A.length ≤ 20) (hnB : B.length ≤ 20) (hmA : ∀ x ∈ A, x.1.maps.length ≤ 40) (hmB : ∀ x ∈ B, x.1.maps.length ≤ 40) :
    Calls Try.prog 26 #[va, vb] w fun e w' => Hid (Below w.heap.size w w' ∧ RBuildOut A B e w') := by
  obtain ⟨ao, acap, rfl, _⟩ := id hA.row
  obtain ⟨bo, bcap, rfl, _⟩ := id hB.row
  by_cases hva : validP false 64 A
  · have HCA0 := Lib.hid (fun (W : World) (hb : Below w.heap.size w W) => parts_ok (.slice ao A.length acap) A 64 W (hA.below hb) hnA hmA hva)
    by_cases hvb : validP true 256 B
    · have HCB := Lib.hid (fun (W : World) (hb : Below w.heap.size w W) => parts_ok (.slice bo B.length bcap) B 256 W (hB.below hb) hnB hmB hvb)
      have HV := Lib.hid (valid_both.2 ⟨hva, hvb⟩)
      clear hva hvb hA hB hmA hmB
      go_enter Try.func26, Try.ntmps26
      go_upto_region 1 with (fail)
      have hb0 := (Below.refl w.heap.size w).alloc (Nat.le_refl _) (.cells #[.slice none 0 0, .slice none 0 0] TRS)
      have hx0 := heap_alloc_new w (.cells #[.slice none 0 0, .slice none 0 0] TRS)
      have HCA := Lib.hid (HCA0.out _ hb0)
      generalize w.alloc (.cells #[.slice none 0 0, .slice none 0 0] TRS) = W0 at hb0 hx0 HCA ⊢
      have HB0 := Lib.hid hb0
      have HX0 := Lib.hid (And.intro hx0 (show w.heap.size ≤ w.heap.size from Nat.le_refl _))
      clear hb0 hx0 HCA0
      generalize hRR : w.heap.size = R at HX0 ⊢
      go_upto_region 2 with (go_at_call 63; refine HCA.out.mono ?_; rintro e W1 ⟨a, rfl, h1⟩; have hb1 := h1.out.1; obtain ⟨aa, ac, rfl, _⟩ := h1.out.2.slice)
      go_upto_region 3 with (go_at_call 63; refine (HCB.out W1 (HB0.out.trans (hb1.mono HB0.out.size))).mono ?_; rintro e W2 ⟨b, rfl, h2⟩; have hb2 := h2.out.1; obtain ⟨ba, bc, rfl, _⟩ := h2.out.2.slice)
      have hbA := hb1.trans (hb2.mono hb1.size)
      have hblk := (hbA.block R (Array.getElem?_eq_some_iff.1 HX0.out.1).1).trans HX0.out.1
      have c0 := cells_at hblk 0; have c1 := cells_at hblk 1
      have f0 := thawed_at hblk 0; have f1 := thawed_at hblk 1
      have HBA := Lib.hid (HB0.out.trans (hbA.mono HB0.out.size))
      go_wp2
      have hres := (((sat_block hblk).setCell (i := 0) (.slice aa A.length ac)).setCell (i := 1) (.slice ba B.length bc)).block
      have hko : ∀ k, k ≠ R → ((W2.setCell ⟨R, 0, none⟩ (.slice aa A.length ac)).setCell ⟨R, 1, none⟩ (.slice ba B.length bc)).heap[k]? = W2.heap[k]? := fun k hk => (heap_setCell_other _ _ _ _ hk).trans (heap_setCell_other _ _ _ _ hk)
      have hbF : Below w.heap.size w ((W2.setCell ⟨R, 0, none⟩ (.slice aa A.length ac)).setCell ⟨R, 1, none⟩ (.slice ba B.length bc)) := (HBA.out.setCell (p := ⟨R, 0, none⟩) (by rw [← hRR]; exact Nat.le_refl _) _).setCell (p := ⟨R, 1, none⟩) (by rw [← hRR]; exact Nat.le_refl _) _
      refine bodyPost_ret (results_d2 rfl rfl rfl hres) rfl ?_
      refine ⟨hbF, .inl ⟨HV.out, _, _, rfl, ⟨?_, ?_⟩⟩⟩
      · have h9 := (h1.out.2.below hb2)
        rw [List.length_map] at h9
        have e9 : (spaceC (A.map Prod.fst) (B.map Prod.fst)).vols = A.map fun x => toPart false x.1 := by unfold spaceC; simp only [List.map_map]; rfl
        rw [e9]
        exact refLO_noBox h9 hblk (by simp [World.setCell]) hko
      · have e9 : (spaceC (A.map Prod.fst) (B.map Prod.fst)).snaps = B.map fun x => toPart true x.1 := by unfold spaceC; simp only [List.map_map]; rfl
        rw [e9]
        have h9 := h2.out.2
        rw [List.length_map] at h9
        exact refLO_noBox h9 hblk (by simp [World.setCell]) hko
    · have HCB := Lib.hid (fun (W : World) (hb : Below w.heap.size w W) => parts_no (.slice bo B.length bcap) B 256 W (hB.below hb) hnB hmB hvb)
      have HV := Lib.hid (show ¬ validS (A.map Prod.fst) (B.map Prod.fst) from fun h => hvb (valid_both.1 h).2)
      clear hva hvb hA hB hmA hmB
      go_enter Try.func26, Try.ntmps26
      go_upto_region 1 with (fail)
      have hb0 := (Below.refl w.heap.size w).alloc (Nat.le_refl _) (.cells #[.slice none 0 0, .slice none 0 0] TRS)
      have hx0 := heap_alloc_new w (.cells #[.slice none 0 0, .slice none 0 0] TRS)
      have HCA := Lib.hid (HCA0.out _ hb0)
      generalize w.alloc (.cells #[.slice none 0 0, .slice none 0 0] TRS) = W0 at hb0 hx0 HCA ⊢
      have HB0 := Lib.hid hb0
      have HX0 := Lib.hid (And.intro hx0 (show w.heap.size ≤ w.heap.size from Nat.le_refl _))
      clear hb0 hx0 HCA0
      generalize hRR : w.heap.size = R at HX0 ⊢
      go_upto_region 2 with (go_at_call 63; refine HCA.out.mono ?_; rintro e W1 ⟨a, rfl, h1⟩; have hb1 := h1.out.1; obtain ⟨aa, ac, rfl, _⟩ := h1.out.2.slice)
      go_upto_region 3 with (go_at_call 63; refine (HCB.out W1 (HB0.out.trans (hb1.mono HB0.out.size))).mono ?_; rintro e W2 ⟨rfl, hb2⟩)
      have hbA := hb1.trans (hb2.mono hb1.size)
      have hblk := (hbA.block R (Array.getElem?_eq_some_iff.1 HX0.out.1).1).trans HX0.out.1
      have c0 := cells_at hblk 0; have c1 := cells_at hblk 1
      have f0 := thawed_at hblk 0; have f1 := thawed_at hblk 1
      have HBA := Lib.hid (HB0.out.trans (hbA.mono HB0.out.size))
      go_wp2
      have hres := (((sat_block hblk).setCell (i := 0) (.slice none 0 0)).setCell (i := 1) (.slice none 0 0)).block
      have hko : ∀ k, k ≠ R → ((W2.setCell ⟨R, 0, none⟩ (.slice none 0 0)).setCell ⟨R, 1, none⟩ (.slice none 0 0)).heap[k]? = W2.heap[k]? := fun k hk => (heap_setCell_other _ _ _ _ hk).trans (heap_setCell_other _ _ _ _ hk)
      have hbF : Below w.heap.size w ((W2.setCell ⟨R, 0, none⟩ (.slice none 0 0)).setCell ⟨R, 1, none⟩ (.slice none 0 0)) := (HBA.out.setCell (p := ⟨R, 0, none⟩) (by rw [← hRR]; exact Nat.le_refl _) _).setCell (p := ⟨R, 1, none⟩) (by rw [← hRR]; exact Nat.le_refl _) _
      refine bodyPost_ret (results_d2 rfl rfl rfl hres) rfl ?_
      exact ⟨hbF, .inr ⟨HV.out, rfl⟩⟩
  · have HCA0 := Lib.hid (fun (W : World) (hb : Below w.heap.size w W) => parts_no (.slice ao A.length acap) A 64 W (hA.below hb) hnA hmA hva)
    have HV := Lib.hid (show ¬ validS (A.map Prod.fst) (B.map Prod.fst) from fun h => hva (valid_both.1 h).1)
    by_cases hvb : validP true 256 B
    · have HCB := Lib.hid (fun (W : World) (hb : Below w.heap.size w W) => parts_ok (.slice bo B.length bcap) B 256 W (hB.below hb) hnB hmB hvb)
      clear hva hvb hA hB hmA hmB
      go_enter Try.func26, Try.ntmps26
      go_upto_region 1 with (fail)
      have hb0 := (Below.refl w.heap.size w).alloc (Nat.le_refl _) (.cells #[.slice none 0 0, .slice none 0 0] TRS)
      have hx0 := heap_alloc_new w (.cells #[.slice none 0 0, .slice none 0 0] TRS)
      have HCA := Lib.hid (HCA0.out _ hb0)
      generalize w.alloc (.cells #[.slice none 0 0, .slice none 0 0] TRS) = W0 at hb0 hx0 HCA ⊢
      have HB0 := Lib.hid hb0
      have HX0 := Lib.hid (And.intro hx0 (show w.heap.size ≤ w.heap.size from Nat.le_refl _))
      clear hb0 hx0 HCA0
      generalize hRR : w.heap.size = R at HX0 ⊢
      go_upto_region 2 with (go_at_call 63; refine HCA.out.mono ?_; rintro e W1 ⟨rfl, hb1⟩)
      go_upto_region 3 with (go_at_call 63; refine (HCB.out W1 (HB0.out.trans (hb1.mono HB0.out.size))).mono ?_; rintro e W2 ⟨b, rfl, h2⟩; have hb2 := h2.out.1; obtain ⟨ba, bc, rfl, _⟩ := h2.out.2.slice)
      have hbA := hb1.trans (hb2.mono hb1.size)
      have hblk := (hbA.block R (Array.getElem?_eq_some_iff.1 HX0.out.1).1).trans HX0.out.1
      have c0 := cells_at hblk 0; have c1 := cells_at hblk 1
      have f0 := thawed_at hblk 0; have f1 := thawed_at hblk 1
      have HBA := Lib.hid (HB0.out.trans (hbA.mono HB0.out.size))
      go_wp2
      have hres := (((sat_block hblk).setCell (i := 0) (.slice none 0 0)).setCell (i := 1) (.slice none 0 0)).block
      have hko : ∀ k, k ≠ R → ((W2.setCell ⟨R, 0, none⟩ (.slice none 0 0)).setCell ⟨R, 1, none⟩ (.slice none 0 0)).heap[k]? = W2.heap[k]? := fun k hk => (heap_setCell_other _ _ _ _ hk).trans (heap_setCell_other _ _ _ _ hk)
      have hbF : Below w.heap.size w ((W2.setCell ⟨R, 0, none⟩ (.slice none 0 0)).setCell ⟨R, 1, none⟩ (.slice none 0 0)) := (HBA.out.setCell (p := ⟨R, 0, none⟩) (by rw [← hRR]; exact Nat.le_refl _) _).setCell (p := ⟨R, 1, none⟩) (by rw [← hRR]; exact Nat.le_refl _) _
      refine bodyPost_ret (results_d2 rfl rfl rfl hres) rfl ?_
      exact ⟨hbF, .inr ⟨HV.out, rfl⟩⟩
    · have HCB := Lib.hid (fun (W : World) (hb : Below w.heap.size w W) => parts_no (.slice bo B.length bcap) B 256 W (hB.below hb) hnB hmB hvb)
      clear hva hvb hA hB hmA hmB
      go_enter Try.func26, Try.ntmps26
      go_upto_region 1 with (fail)
      have hb0 := (Below.refl w.heap.size w).alloc (Nat.le_refl _) (.cells #[.slice none 0 0, .slice none 0 0] TRS)
      have hx0 := heap_alloc_new w (.cells #[.slice none 0 0, .slice none 0 0] TRS)
      have HCA := Lib.hid (HCA0.out _ hb0)
      generalize w.alloc (.cells #[.slice none 0 0, .slice none 0 0] TRS) = W0 at hb0 hx0 HCA ⊢
      have HB0 := Lib.hid hb0
      have HX0 := Lib.hid (And.intro hx0 (show w.heap.size ≤ w.heap.size from Nat.le_refl _))
      clear hb0 hx0 HCA0
      generalize hRR : w.heap.size = R at HX0 ⊢
      go_upto_region 2 with (go_at_call 63; refine HCA.out.mono ?_; rintro e W1 ⟨rfl, hb1⟩)
      go_upto_region 3 with (go_at_call 63; refine (HCB.out W1 (HB0.out.trans (hb1.mono HB0.out.size))).mono ?_; rintro e W2 ⟨rfl, hb2⟩)
      have hbA := hb1.trans (hb2.mono hb1.size)
      have hblk := (hbA.block R (Array.getElem?_eq_some_iff.1 HX0.out.1).1).trans HX0.out.1
      have c0 := cells_at hblk 0; have c1 := cells_at hblk 1
      have f0 := thawed_at hblk 0; have f1 := thawed_at hblk 1
      have HBA := Lib.hid (HB0.out.trans (hbA.mono HB0.out.size))
      go_wp2
      have hres := (((sat_block hblk).setCell (i := 0) (.slice none 0 0)).setCell (i := 1) (.slice none 0 0)).block
      have hko : ∀ k, k ≠ R → ((W2.setCell ⟨R, 0, none⟩ (.slice none 0 0)).setCell ⟨R, 1, none⟩ (.slice none 0 0)).heap[k]? = W2.heap[k]? := fun k hk => (heap_setCell_other _ _ _ _ hk).trans (heap_setCell_other _ _ _ _ hk)
      have hbF : Below w.heap.size w ((W2.setCell ⟨R, 0, none⟩ (.slice none 0 0)).setCell ⟨R, 1, none⟩ (.slice none 0 0)) := (HBA.out.setCell (p := ⟨R, 0, none⟩) (by rw [← hRR]; exact Nat.le_refl _) _).setCell (p := ⟨R, 1, none⟩) (by rw [← hRR]; exact Nat.le_refl _) _
      refine bodyPost_ret (results_d2 rfl rfl rfl hres) rfl ?_
      exact ⟨hbF, .inr ⟨HV.out, rfl⟩⟩

/-! ### the argument -/
set_option maxRecDepth 20000 in
theorem rd_mapping {w : World} {cs : List Value} (h : Rd Try.prog w 107 cs) : ∃ x, cs = mE x := by
  obtain ⟨hl, hf⟩ := Rd.struct Try.underlying107 h
  rw [show Try.prog.cellsOf 107 = 2 by kernel_rfl] at hl
  have k1 : Try.prog.cellsOf 3 = 1 := by kernel_rfl
  match cs, hl with
  | [a0, a1], _ =>
    simp only [List.mem_cons, List.not_mem_nil, or_false, forall_eq_or_imp, forall_eq, k1, List.drop_zero, List.drop_succ_cons, List.take_succ_cons, List.take_zero] at hf
    obtain ⟨h0, h1⟩ := hf
    obtain ⟨n0, e0, _⟩ := Rd.int Try.underlying3 h0
    obtain ⟨n1, e1, _⟩ := Rd.int Try.underlying3 h1
    refine ⟨(n0, n1), ?_⟩
    simp at e0 e1
    subst e0 e1
    rfl
theorem flat_cell {α : Type} {enc : α → List Value} {k : Nat} (hk : ∀ x, (enc x).length = k) (h0 : 0 < k) {l : List α} {w : World} {b off : Nat} (h : ∀ j x, l[j]? = some x → ∀ i u, (enc x)[i]? = some u → w.cell? ⟨b, off + j * k + i, none⟩ = some u) :
    ∀ j u, (l.flatMap enc)[j]? = some u → w.cell? ⟨b, off + j, none⟩ = some u := by
  intro j u hu
  have hlt := (List.getElem?_eq_some_iff.1 hu).1
  rw [flat_len hk] at hlt
  have hq : j / k < l.length := Nat.div_lt_of_lt_mul (by rw [Nat.mul_comm]; exact hlt)
  obtain ⟨x, hx⟩ : ∃ x, l[j / k]? = some x := ⟨_, List.getElem?_eq_getElem hq⟩
  have hr : j % k < (enc x).length := by rw [hk]; exact Nat.mod_lt _ h0
  obtain ⟨u', hu'⟩ : ∃ u', (enc x)[j % k]? = some u' := ⟨_, List.getElem?_eq_getElem hr⟩
  have hfa := flat_at hk l _ x hx _ _ hu'
  have hjk : j / k * k + j % k = j := by rw [Nat.mul_comm]; exact Nat.div_add_mod _ _
  rw [hjk, hu] at hfa
  obtain rfl : u = u' := Option.some.inj hfa
  have := h _ x hx _ _ hu'
  rwa [Nat.add_assoc, hjk] at this
theorem rd_mappings {w : World} {cs : List Value} (h : Rd Try.prog w 50 cs) : ∃ v, ∃ l : List (Int × Int), cs = [v] ∧ RowsO w v l.length (l.flatMap mE) ∧ (∃ a n c, v = .slice a n c) := by
  obtain ⟨ao, len, cap, rfl, hm, hc⟩ := Rd.slice (sz := 2) Try.underlying50 (by kernel_rfl) (by decide) h
  by_cases h0 : len = 0
  · subst h0
    exact ⟨_, [], rfl, ⟨ao, cap, rfl, Nat.zero_le _, fun h => absurd h (Nat.lt_irrefl _)⟩, _, _, _, rfl⟩
  · obtain ⟨b, off, rfl, hi⟩ := hc (by omega)
    obtain ⟨l, hl, hp⟩ := list_of (p := fun j (x : Int × Int) => ∀ i u, (mE x)[i]? = some u → w.cell? ⟨b, off + j * 2 + i, none⟩ = some u) len (by
      intro i hlt
      obtain ⟨es, _, hr, hcell⟩ := hi i hlt
      obtain ⟨x, rfl⟩ := rd_mapping hr
      exact ⟨x, hcell⟩)
    subst hl
    have hcell := flat_cell mE_len (by decide) hp
    refine ⟨_, l, rfl, ⟨some ⟨b, off, none⟩, cap, rfl, hm, fun hn => ⟨b, off, rfl, ?_, hcell⟩⟩, _, _, _, rfl⟩
    obtain ⟨x, hx⟩ : ∃ x, l[0]? = some x := ⟨_, List.getElem?_eq_getElem hn⟩
    exact World.block_lt_of_cell? _ _ (hp 0 x hx 0 _ rfl)
set_option maxRecDepth 20000 in
theorem rd_content {w : World} {cs : List Value} (h : Rd Try.prog w 69 cs) : ∃ x : ElC, cs = cE x ∧ RowsO w x.2 x.1.maps.length (x.1.maps.flatMap mE) := by
  obtain ⟨hl, hf⟩ := Rd.struct Try.underlying69 h
  rw [show Try.prog.cellsOf 69 = 4 by kernel_rfl] at hl
  have k1 : Try.prog.cellsOf 3 = 1 := by kernel_rfl
  have k2 : Try.prog.cellsOf 50 = 1 := by kernel_rfl
  match cs, hl with
  | [a0, a1, a2, a3], _ =>
    simp only [List.mem_cons, List.not_mem_nil, or_false, forall_eq_or_imp, forall_eq, k1, k2, List.drop_zero, List.drop_succ_cons, List.take_succ_cons, List.take_zero] at hf
    obtain ⟨h0, h1, h2, h3⟩ := hf
    obtain ⟨n0, e0, _⟩ := Rd.int Try.underlying3 h0
    obtain ⟨n1, e1, _⟩ := Rd.int Try.underlying3 h1
    obtain ⟨n2, e2, _⟩ := Rd.int Try.underlying3 h2
    obtain ⟨v, l, e3, hr, _⟩ := rd_mappings h3
    simp at e0 e1 e2 e3
    subst e0 e1 e2 e3
    exact ⟨(⟨n0, n1, n2, l⟩, a3), rfl, hr⟩
theorem rd_contents {w : World} {cs : List Value} (h : Rd Try.prog w 63 cs) : ∃ v l, cs = [v] ∧ CntL w v l := by
  obtain ⟨ao, len, cap, rfl, hm, hc⟩ := Rd.slice (sz := 4) Try.underlying63 (by kernel_rfl) (by decide) h
  by_cases h0 : len = 0
  · subst h0
    exact ⟨_, [], rfl, ⟨⟨ao, cap, rfl, Nat.zero_le _, fun h => absurd h (Nat.lt_irrefl _)⟩, fun x hx => absurd hx (by simp)⟩⟩
  · obtain ⟨b, off, rfl, hi⟩ := hc (by omega)
    obtain ⟨l, hl, hp⟩ := list_of (p := fun j (x : ElC) => (∀ i u, (cE x)[i]? = some u → w.cell? ⟨b, off + j * 4 + i, none⟩ = some u) ∧ RowsO w x.2 x.1.maps.length (x.1.maps.flatMap mE)) len (by
      intro i hlt
      obtain ⟨es, _, hr, hcell⟩ := hi i hlt
      obtain ⟨x, rfl, hx⟩ := rd_content hr
      exact ⟨x, hcell, hx⟩)
    subst hl
    have hcell := flat_cell cE_len (by decide) (fun j x hx => (hp j x hx).1)
    refine ⟨_, l, rfl, ⟨⟨some ⟨b, off, none⟩, cap, rfl, hm, fun hn => ⟨b, off, rfl, ?_, hcell⟩⟩, fun x hx => ?_⟩⟩
    · obtain ⟨x, hx⟩ : ∃ x, l[0]? = some x := ⟨_, List.getElem?_eq_getElem hn⟩
      exact World.block_lt_of_cell? _ _ ((hp 0 x hx).1 0 _ rfl)
    · obtain ⟨i, hi⟩ := List.mem_iff_getElem?.1 hx
      exact (hp i x hi).2
end Go.Proofs.Ytednjhlkhecihaa
