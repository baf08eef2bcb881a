/- VolumeBuilds: a space that is built from the volumes and snapshots of another one is equal to it, also after further operations. Printed by zb27.py. -/
import Derived.Test.YtednjhlkhecihaaUf
import Derived.Test.YtednjhlkhecihaaUg
import Derived.Test.YtednjhlkhecihaaUj
import Derived.Test.YtednjhlkhecihaaUk
import Derived.Test.YtednjhlkhecihaaZv
namespace Go.Proofs.Ytednjhlkhecihaa
open Go.RowKit Go.Vol Go.Sl Go.ChangeMaps Go.ChangeShapes Go.WideShapes Go.ChangeAt

theorem NodeOk.noBox {T TR : TypeId} {ok : Nat → Prop} {w : World} {N : Nat} {cs : Array Value} (hT : T ≠ TR) (hR : w.heap[N]? = some (.cells cs TR (0, 0))) : ∀ {L : Nat} {v : Value} {m : MapM}, NodeOk T ok w L v m → NodeOk T (fun b => b ≠ N) w L v m
  | 0, v, m, h => by
    rcases h with h | ⟨b, h1, h2, h3, h4⟩
    · exact .inl h
    · refine .inr ⟨b, h1, h2, h3, ?_⟩
      intro e
      rw [e, hR] at h3
      simp only [Option.some.injEq, Obj.cells.injEq] at h3
      exact hT h3.2.1.symm
  | L + 1, v, m, h => by
    rcases h with h | ⟨b, kids, h1, h2, h3, h4, h5, h6⟩
    · exact .inl h
    · refine .inr ⟨b, kids, h1, h2, h3, h4, fun j k hj => NodeOk.noBox hT hR (h5 j k hj), ?_⟩
      intro e
      rw [e, hR] at h4
      simp only [Option.some.injEq, Obj.cells.injEq] at h4
      exact hT h4.2.1.symm
theorem rows_noBox {w w' : World} {v : Value} {n N : Nat} {Lr : List Value} {a : Option Addr} {x c : Nat} {y : Value} {T : TypeId} (h : RowsAt w v n Lr) (hL : 0 < n → ∃ i : Int, Lr[0]? = some (.int .i64 i)) (hR : w.heap[N]? = some (.cells #[.slice a x c, y] T (0, 0)))
    (hs : w.heap.size ≤ w'.heap.size) (hk : ∀ k, k ≠ N → k < w.heap.size → w'.heap[k]? = w.heap[k]?) : RowsAt w' v n Lr := by
  obtain ⟨ao, cap, h1, h2, h3, h4⟩ := h
  refine ⟨ao, cap, h1, h2, h3, fun hn => ?_⟩
  obtain ⟨b, h5, h6, h7⟩ := h4 hn
  obtain ⟨i, hi⟩ := hL hn
  have hne : b ≠ N := by
    intro e
    have := h7 0 _ hi
    rw [e, cells_at hR] at this
    simp at this
  exact ⟨b, h5, by omega, fun j u hu => by rw [World.cell?_of_block (w := w) (hk b hne h6)]; exact h7 j u hu⟩
theorem space_noBox {w w' : World} {p N : Nat} {S : SpaceM} {a : Option Addr} {x c : Nat} {y : Value} (h : SpaceAt TNode TSp w p S) (hR : w.heap[N]? = some (.cells #[.slice a x c, y] TRS (0, 0)))
    (hs : w.heap.size ≤ w'.heap.size) (hk : ∀ k, k ≠ N → k < w.heap.size → w'.heap[k]? = w.heap[k]?) : SpaceAt TNode TSp w' p S := by
  obtain ⟨lv, ls, h1, h2, ⟨vv, vs, hp, hv, hs2⟩, he1, he2⟩ := h
  have hpN : p ≠ N := by
    intro e
    rw [e, hR] at hp
    simp only [Option.some.injEq, Obj.cells.injEq] at hp
    exact absurd hp.2.1 (by decide)
  refine ⟨lv, ls, h1, h2, ⟨vv, vs, by rw [hk p hpN (Array.getElem?_eq_some_iff.1 hp).1]; exact hp, ?_, ?_⟩, ?_, ?_⟩
  · refine rows_noBox hv (fun hn => ?_) hR hs hk
    cases lv with
    | nil => simp at hn
    | cons z r => exact ⟨z.1.id, by simp [volE]⟩
  · refine rows_noBox hs2 (fun hn => ?_) hR hs hk
    cases ls with
    | nil => simp at hn
    | cons z r => exact ⟨z.1.id, by simp [snapE]⟩
  · exact fun z hz => NodeOk.at ((NodeOk.noBox (by decide) hR (he1 z hz)).keep fun b hb hl => hk b hb hl)
  · exact fun z hz => NodeOk.at ((NodeOk.noBox (by decide) hR (he2 z hz)).keep fun b hb hl => hk b hb hl)
theorem SrcOk.run {S : SpaceM} (hw : S.WF) (h : SrcOk S) : ∀ l : List VOp, SrcOk (runV S l) := by
  intro l
  induction l generalizing S with
  | nil => exact h
  | cons o r ih => exact ih (do_wf hw) (src_do hw h)
/-- What lies between two rounds: the program's space, the specified one and its box. -/
structure BuF (w : World) (R p : Nat) (S : SpaceM) (vv vs : Value) (W : World) : Prop where
  bl : Below w.heap.size w W
  sp : SpaceAt TNode TSp W p S
  rf : RefAt (fun b => b ≠ R) W vv vs S
  bx : W.heap[R]? = some (.cells #[vv, vs] TRS (0, 0))
structure BuSt (w : World) (R : Nat) (S0 : SpaceM) (l : List VOp) (s i : Value) (wr : World) : Prop where
  st : ∃ (k p : Nat) (vv vs : Value), k ≤ l.length ∧ i = .int .i64 (k : Int) ∧ s = .pointer (some ⟨p, 0, none⟩) ∧ Hid (BuF w R p (runV S0 (l.take k)) vv vs wr)
theorem BuF.next {w W W' : World} {R p : Nat} {S : SpaceM} {vv vs : Value} (h : BuF w R p S vv vs W) (hb : Below W.heap.size W W') : BuF w R p S vv vs W' :=
  ⟨h.bl.trans (hb.mono h.bl.size), h.sp.below hb, h.rf.below hb, (hb.block R (Array.getElem?_eq_some_iff.1 h.bx).1).trans h.bx⟩
theorem rs_sl {ok : Nat → Prop} {W : World} {vv vs : Value} {S : SpaceM} (h : RefAt ok W vv vs S) : ∃ a c x y, vv = .slice a S.vols.length c ∧ vs = .slice x S.snaps.length y := by
  obtain ⟨a, c, h1, _⟩ := h.v.slice
  obtain ⟨x, y, h2, _⟩ := h.s.slice
  exact ⟨a, c, x, y, h1, h2⟩
/-- The box is written: the new specified space takes the place of the old one. -/
theorem BuF.put {w W : World} {R p q : Nat} {S T : SpaceM} {vv vs xa xs : Value} (h : BuF w R p S vv vs W) (hw : w.heap.size ≤ R) (hs : SpaceAt TNode TSp W q T) (hr : RefAt (fun b => b ≠ R) W xa xs T) : BuF w R q T xa xs ((W.setCell ⟨R, 0, none⟩ xa).setCell ⟨R, 1, none⟩ xs) := by
  obtain ⟨a, c, x, y, rfl, rfl⟩ := rs_sl h.rf
  have hk : ∀ k, k ≠ R → ((W.setCell ⟨R, 0, none⟩ xa).setCell ⟨R, 1, none⟩ xs).heap[k]? = W.heap[k]? := fun k hk => (heap_setCell_other _ _ _ _ hk).trans (heap_setCell_other _ _ _ _ hk)
  refine ⟨(h.bl.setCell (p := ⟨R, 0, none⟩) hw xa).setCell (p := ⟨R, 1, none⟩) hw xs, space_noBox hs h.bx (by simp [World.setCell]) fun k h1 _ => hk k h1, hr.keep (by simp [World.setCell]) fun b hb _ => hk b hb, ?_⟩
  exact (((sat_block h.bx).setCell (i := 0) xa).setCell (i := 1) xs).block

set_option maxRecDepth 20000 in
set_option maxHeartbeats 4000000 in
theorem builds_law (sv mv : Value) (l ml : List VOp) (w : World) (hscr : ScrV w sv l) (hmore : ScrV w mv ml) :
    Calls Try.prog 7 #[sv, mv] w fun e w' => e = .returned (.bool true) ∧ Below w.heap.size w w' := by
  obtain ⟨ao, cap, rfl, hm, hc⟩ := hscr
  obtain ⟨mo, mcap, rfl, hm2, hc2⟩ := hmore
  have HC := Lib.hid hc
  have HC2 := Lib.hid hc2
  clear hc hm hc2 hm2
  by_cases h1 : 60 < l.length
  · have h1d : decide ((60 : Int) < (l.length : Int)) = true := decide_eq_true (by omega)
    clear h1
    go_enter Try.func7, Try.ntmps7
    go_wp2_with (go_at_call 9; refine (sanity_any _).mono ?_; rintro e w10 ⟨rfl, h10⟩)
    go_ret
    exact ⟨rfl, h10⟩
  have h1d : decide ((60 : Int) < (l.length : Int)) = false := decide_eq_false (by omega)
  have hlen : l.length ≤ 60 := by omega
  by_cases h2 : 20 < ml.length
  · have h2d : decide ((20 : Int) < (ml.length : Int)) = true := decide_eq_true (by omega)
    clear h2
    go_enter Try.func7, Try.ntmps7
    go_wp2_with (go_at_call 9; refine (sanity_any _).mono ?_; rintro e w10 ⟨rfl, h10⟩)
    go_ret
    exact ⟨rfl, h10⟩
  have h2d : decide ((20 : Int) < (ml.length : Int)) = false := decide_eq_false (by omega)
  have hlen2 : ml.length ≤ 20 := by omega
  have HN := Lib.hid (new_any w)
  clear h1 h2
  go_enter Try.func7, Try.ntmps7
  go_upto_region 5 with (go_at_call 10; refine HN.out.mono ?_; rintro e w1 ⟨p0, rfl, h1⟩)
  clear h1d h2d
  have hbR := (Below.refl w1.heap.size w1).alloc (Nat.le_refl _) (.cells #[.slice none 0 0, .slice none 0 0] TRS)
  have hR := heap_alloc_new w1 (.cells #[.slice none 0 0, .slice none 0 0] TRS)
  generalize w1.alloc (.cells #[.slice none 0 0, .slice none 0 0] TRS) = W0 at hbR hR ⊢
  have hwR : w.heap.size ≤ w1.heap.size := h1.out.1.size
  have hbR' := hbR
  generalize w1.heap.size = R at hbR' hR hwR ⊢
  have H0 := Lib.hid (show BuF w R p0 SpaceM.new (.slice none 0 0) (.slice none 0 0) W0 from ⟨h1.out.1.trans (hbR.mono h1.out.1.size), h1.out.2.below hbR, ⟨RefL.nil _ _, RefL.nil _ _⟩, hR⟩)
  have HWR := Lib.hid hwR
  clear hbR hR hbR' hwR h1 HN
  go_wp2
  go_loopw [5, 7] (fun s i wr => BuSt w R SpaceM.new l s i wr) (fun _ i _ => l.length - (intOf i).toNat)
  case atStart => exact ⟨⟨0, p0, _, _, Nat.zero_le _, rfl, rfl, H0.out⟩⟩
  case round =>
    clear H0
    obtain ⟨k, p, vv, vs, hk, rfl, rfl, HF⟩ := hrel.st
    clear hrel
    by_cases hlt : k < l.length
    · have hltd : decide ((k : Int) < (l.length : Int)) = true := decide_eq_true (by omega)
      have hki : (k : Int) ≤ 60 := by omega
      obtain ⟨o, ho⟩ : ∃ o, l[k]? = some o := ⟨_, List.getElem?_eq_getElem hlt⟩
      obtain ⟨g, off, rfl, hcell⟩ := HC.out (by rintro rfl; simp at hlt)
      have hcell0 : w.cell? ⟨g, off + k * 4 + 0, none⟩ = some (.int .i64 o.d) := hcell k o ho 0 _ rfl
      rw [Nat.add_zero] at hcell0
      have HCELL := Lib.hid (fun (W : World) (hb : Below w.heap.size w W) => (show W.cell? ⟨g, off + k * 4, none⟩ = some (.int .i64 o.d) ∧ W.cell? ⟨g, off + k * 4 + 1, none⟩ = some (.int .i64 o.a) ∧ W.cell? ⟨g, off + k * 4 + 2, none⟩ = some (.int .i64 o.b) ∧ W.cell? ⟨g, off + k * 4 + 3, none⟩ = some (.int .i64 o.c) from ⟨(hb.cell (World.block_lt_of_cell? _ _ hcell0)).trans hcell0, (hb.cell (World.block_lt_of_cell? _ _ (hcell k o ho 1 _ rfl))).trans (hcell k o ho 1 _ rfl), (hb.cell (World.block_lt_of_cell? _ _ (hcell k o ho 2 _ rfl))).trans (hcell k o ho 2 _ rfl), (hb.cell (World.block_lt_of_cell? _ _ (hcell k o ho 3 _ rfl))).trans (hcell k o ho 3 _ rfl)⟩))
      have HGL := Lib.hid (World.block_lt_of_cell? _ _ hcell0)
      obtain ⟨c0, c1, c2, c3⟩ := HCELL.out wr HF.out.bl
      have HWF := Lib.hid (runV_wf SpaceM.WF.new (l.take k))
      have HTK := Lib.hid (runV_take ho SpaceM.new)
      have HD := Lib.hid (do_any p _ o wr HF.out.sp HWF.out)
      generalize runV SpaceM.new (l.take k) = S at HF HWF HTK HD
      obtain ⟨od, oa, ob, oc⟩ := o
      simp only at c0 c1 c2 c3 HCELL
      clear hcell hcell0 ho
      go_upto_region 9 with (go_at_call 11; refine HD.out.mono ?_; rintro e w2 ⟨p', rfl, h2⟩)
      have HF2 := Lib.hid (HF.out.next h2.out.1)
      have HSP := Lib.hid h2.out.2
      have hRl : R < w2.heap.size := (Array.getElem?_eq_some_iff.1 HF2.out.bx).1
      clear c0 c1 c2 c3 h2 HD HF
      obtain ⟨a0, b0, a1, b1, rfl, rfl⟩ := rs_sl HF2.out.rf
      have hS0 : w2.drew.cell? ⟨g, off + k * 4, none⟩ = some (.int .i64 od) ∧ w2.drew.cell? ⟨g, off + k * 4 + 1, none⟩ = some (.int .i64 oa) ∧ w2.drew.cell? ⟨g, off + k * 4 + 2, none⟩ = some (.int .i64 ob) ∧ w2.drew.cell? ⟨g, off + k * 4 + 3, none⟩ = some (.int .i64 oc) := HCELL.out w2 HF2.out.bl
      have r0 : w2.drew.cell? ⟨R, 0, none⟩ = some (.slice a0 S.vols.length b0) := cells_at HF2.out.bx 0
      have r1 : w2.drew.cell? ⟨R, 1, none⟩ = some (.slice a1 S.snaps.length b1) := cells_at HF2.out.bx 1
      refine reg_begin (fun w' => w'.cell? ⟨g, off + k * 4, none⟩ = some (.int .i64 od) ∧ w'.cell? ⟨g, off + k * 4 + 1, none⟩ = some (.int .i64 oa) ∧ w'.cell? ⟨g, off + k * 4 + 2, none⟩ = some (.int .i64 ob) ∧ w'.cell? ⟨g, off + k * 4 + 3, none⟩ = some (.int .i64 oc)) (by kernel_rfl) ?_
      (apply reg_take 1 rfl rfl (by decide +kernel) rfl); (rintro w' ⟨h1, h2, h3, h4⟩; go_simp; rfl); exact hS0; simp only [List.setIfInBounds_toArray, List.set_cons_succ, List.set_cons_zero]
      (apply reg_take 2 rfl rfl (by decide +kernel) rfl); (rintro w' ⟨h1, h2, h3, h4⟩; go_simp; rfl); exact hS0; simp only [List.setIfInBounds_toArray, List.set_cons_succ, List.set_cons_zero]
      (apply reg_take 3 rfl rfl (by decide +kernel) rfl); (rintro w' ⟨h1, h2, h3, h4⟩; go_simp; rfl); exact hS0; simp only [List.setIfInBounds_toArray, List.set_cons_succ, List.set_cons_zero]
      (apply reg_take 4 rfl rfl (by decide +kernel) rfl); (rintro w' ⟨h1, h2, h3, h4⟩; go_simp; rfl); exact hS0; simp only [List.setIfInBounds_toArray, List.set_cons_succ, List.set_cons_zero]
      refine reg_run 0 (.agg #[.slice a0 S.vols.length b0, .slice a1 S.snaps.length b1]) (w2.drew) rfl rfl (by decide +kernel) rfl (by go_simp) (hS0) ?_; simp only [List.setIfInBounds_toArray, List.set_cons_succ, List.set_cons_zero]
      have hdr : Below w2.heap.size w2 w2.drew := (Below.refl _ _).drew
      refine reg_call 5 rfl rfl (by decide +kernel) rfl (f := 22) (args := #[.agg #[.slice a0 S.vols.length b0, .slice a1 S.snaps.length b1], .agg #[.int .i64 od, .int .i64 oa, .int .i64 ob, .int .i64 oc]]) (R := fun v w' => ∃ xa xs, v = .tuple #[.agg #[xa, xs], .int .i64 (stepM S ⟨od, oa, ob, oc⟩).id, .int .i64 (stepM S ⟨od, oa, ob, oc⟩).e] ∧ Hid (Below w2.heap.size w2 w' ∧ RefAt (fun b => b ≠ R) w' xa xs (doM S ⟨od, oa, ob, oc⟩))) (by kernel_rfl)
        ((spec_any (ok := fun b => b ≠ R) (.slice a0 S.vols.length b0) (.slice a1 S.snaps.length b1) S ⟨od, oa, ob, oc⟩ w2.drew (HF2.out.rf.below hdr) HWF.out).mono fun e w' h => by
          obtain ⟨xa, xs, h1, h3⟩ := h
          exact ⟨_, h1, xa, xs, rfl, hdr.trans h3.out.1, h3.out.2.weaken fun b hb _ => by
            rcases hb with hb | hb
            · exact hb
            · exact fun e => by rw [e] at hb; exact absurd hRl (Nat.not_lt.2 hb)⟩) ?_
      rintro _ W3 ⟨xa, xs, rfl, h3⟩
      obtain ⟨ya, yb, yc, yd, rfl, rfl⟩ := rs_sl h3.out.2
      have HF3 := Lib.hid (HF2.out.next h3.out.1)
      have hS3 : W3.cell? ⟨g, off + k * 4, none⟩ = some (.int .i64 od) ∧ W3.cell? ⟨g, off + k * 4 + 1, none⟩ = some (.int .i64 oa) ∧ W3.cell? ⟨g, off + k * 4 + 2, none⟩ = some (.int .i64 ob) ∧ W3.cell? ⟨g, off + k * 4 + 3, none⟩ = some (.int .i64 oc) := HCELL.out W3 HF3.out.bl
      refine ⟨hS3, ?_⟩
      simp only [List.setIfInBounds_toArray, List.set_cons_succ, List.set_cons_zero]
      (apply reg_take 6 rfl rfl (by decide +kernel) rfl); (rintro w' ⟨h1, h2, h3, h4⟩; go_simp; rfl); exact hS3; simp only [List.setIfInBounds_toArray, List.set_cons_succ, List.set_cons_zero]
      (apply reg_take 7 rfl rfl (by decide +kernel) rfl); (rintro w' ⟨h1, h2, h3, h4⟩; go_simp; rfl); exact hS3; simp only [List.setIfInBounds_toArray, List.set_cons_succ, List.set_cons_zero]
      (apply reg_take 8 rfl rfl (by decide +kernel) rfl); (rintro w' ⟨h1, h2, h3, h4⟩; go_simp; rfl); exact hS3; simp only [List.setIfInBounds_toArray, List.set_cons_succ, List.set_cons_zero]
      (apply reg_take 9 rfl rfl (by decide +kernel) rfl); (rintro w' ⟨h1, h2, h3, h4⟩; go_simp; rfl); exact hS3; simp only [List.setIfInBounds_toArray, List.set_cons_succ, List.set_cons_zero]
      have hfin := HF3.out.put HWR.out (HSP.out.below h3.out.1) h3.out.2
      have k0 := cells_at HF3.out.bx 0; have k1 := cells_at HF3.out.bx 1
      have f0 := thawed_at HF3.out.bx 0; have f1 := thawed_at HF3.out.bx 1
      have hS4 : ((W3.setCell ⟨R, 0, none⟩ (.slice ya (doM S ⟨od, oa, ob, oc⟩).vols.length yb)).setCell ⟨R, 1, none⟩ (.slice yc (doM S ⟨od, oa, ob, oc⟩).snaps.length yd)).cell? ⟨g, off + k * 4, none⟩ = some (.int .i64 od) ∧ ((W3.setCell ⟨R, 0, none⟩ (.slice ya (doM S ⟨od, oa, ob, oc⟩).vols.length yb)).setCell ⟨R, 1, none⟩ (.slice yc (doM S ⟨od, oa, ob, oc⟩).snaps.length yd)).cell? ⟨g, off + k * 4 + 1, none⟩ = some (.int .i64 oa) ∧ ((W3.setCell ⟨R, 0, none⟩ (.slice ya (doM S ⟨od, oa, ob, oc⟩).vols.length yb)).setCell ⟨R, 1, none⟩ (.slice yc (doM S ⟨od, oa, ob, oc⟩).snaps.length yd)).cell? ⟨g, off + k * 4 + 2, none⟩ = some (.int .i64 ob) ∧ ((W3.setCell ⟨R, 0, none⟩ (.slice ya (doM S ⟨od, oa, ob, oc⟩).vols.length yb)).setCell ⟨R, 1, none⟩ (.slice yc (doM S ⟨od, oa, ob, oc⟩).snaps.length yd)).cell? ⟨g, off + k * 4 + 3, none⟩ = some (.int .i64 oc) := HCELL.out _ hfin.bl
      refine reg_do 10 ((W3.setCell ⟨R, 0, none⟩ (.slice ya (doM S ⟨od, oa, ob, oc⟩).vols.length yb)).setCell ⟨R, 1, none⟩ (.slice yc (doM S ⟨od, oa, ob, oc⟩).snaps.length yd)) rfl rfl (by decide +kernel) rfl (by go_simp) (hS4) ?_
      refine reg_done (by decide +kernel) ?_
      have HFIN := Lib.hid hfin
      clear hfin hS0 hS3 hS4 k0 k1 f0 f1 r0 r1 hdr h3 hRl
      go_wp2
      refine ⟨⟨⟨k + 1, p', _, _, by omega, by rw [Int.natCast_add]; rfl, rfl, by rw [HTK.out]; exact HFIN.out⟩⟩, by simp only [intOf]; omega⟩
    · obtain rfl : k = l.length := by omega
      have hltd : decide ((l.length : Int) < (l.length : Int)) = false := decide_eq_false (by omega)
      rw [List.take_length] at HF
      have HWF := Lib.hid (And.intro (runV_wf SpaceM.WF.new l) (SrcOk.run SpaceM.WF.new src_new l))
      generalize runV SpaceM.new l = S at HF HWF
      obtain ⟨a0, b0, a1, b1, rfl, rfl⟩ := rs_sl HF.out.rf
      clear HC
      go_upto_region 13 with (first
        | (go_at_call 24; refine (lawcont_any p S _ HF.out.sp HWF.out.1 HWF.out.2).mono ?_; rintro e w2 ⟨ca, cb, rfl, h2⟩; replace HF := Lib.hid (HF.out.next h2.out.1))
        | (go_at_call 23; refine (build_any ca cb S _ h2.out.2 HWF.out.1 HWF.out.2).mono ?_; rintro e w3 ⟨q, rfl, h3⟩; replace HF := Lib.hid (HF.out.next h3.out.1)))
      have HT := Lib.hid h3.out.2
      clear h2 h3
      have r0 := cells_at HF.out.bx 0; have r1 := cells_at HF.out.bx 1
      go_upto_region 15 with (go_at_call 25; refine (same27_any q S _ _ _ HT.out HWF.out.1 HF.out.rf).mono ?_; rintro e w4 ⟨rfl, h4⟩; replace HF := Lib.hid (HF.out.next h4))
      have H0 := Lib.hid (show BuF w R q S _ _ w4 from ⟨HF.out.bl, HT.out.below h4, HF.out.rf, HF.out.bx⟩)
      clear r0 r1 h4 HT HF
      have HW2 := Lib.hid HWF.out.1
      clear HWF hltd hlt hk
      go_wp2
      go_loopw [8, 10] (fun s i wr => BuSt w R S ml s i wr) (fun _ i _ => ml.length - (intOf i).toNat)
      case atStart => exact ⟨⟨0, q, _, _, Nat.zero_le _, rfl, rfl, H0.out⟩⟩
      case round =>
        clear H0
        obtain ⟨k, p, vv, vs, hk, rfl, rfl, HF⟩ := hrel.st
        clear hrel
        by_cases hlt : k < ml.length
        · have hltd : decide ((k : Int) < (ml.length : Int)) = true := decide_eq_true (by omega)
          have hki : (k : Int) ≤ 60 := by omega
          obtain ⟨o, ho⟩ : ∃ o, ml[k]? = some o := ⟨_, List.getElem?_eq_getElem hlt⟩
          obtain ⟨g, off, rfl, hcell⟩ := HC2.out (by rintro rfl; simp at hlt)
          have hcell0 : w.cell? ⟨g, off + k * 4 + 0, none⟩ = some (.int .i64 o.d) := hcell k o ho 0 _ rfl
          rw [Nat.add_zero] at hcell0
          have HCELL := Lib.hid (fun (W : World) (hb : Below w.heap.size w W) => (show W.cell? ⟨g, off + k * 4, none⟩ = some (.int .i64 o.d) ∧ W.cell? ⟨g, off + k * 4 + 1, none⟩ = some (.int .i64 o.a) ∧ W.cell? ⟨g, off + k * 4 + 2, none⟩ = some (.int .i64 o.b) ∧ W.cell? ⟨g, off + k * 4 + 3, none⟩ = some (.int .i64 o.c) from ⟨(hb.cell (World.block_lt_of_cell? _ _ hcell0)).trans hcell0, (hb.cell (World.block_lt_of_cell? _ _ (hcell k o ho 1 _ rfl))).trans (hcell k o ho 1 _ rfl), (hb.cell (World.block_lt_of_cell? _ _ (hcell k o ho 2 _ rfl))).trans (hcell k o ho 2 _ rfl), (hb.cell (World.block_lt_of_cell? _ _ (hcell k o ho 3 _ rfl))).trans (hcell k o ho 3 _ rfl)⟩))
          have HGL := Lib.hid (World.block_lt_of_cell? _ _ hcell0)
          obtain ⟨c0, c1, c2, c3⟩ := HCELL.out wr HF.out.bl
          have HWF := Lib.hid (runV_wf HW2.out (ml.take k))
          have HTK := Lib.hid (runV_take ho S)
          have HD := Lib.hid (do_any p _ o wr HF.out.sp HWF.out)
          generalize runV S (ml.take k) = T at HF HWF HTK HD
          obtain ⟨od, oa, ob, oc⟩ := o
          simp only at c0 c1 c2 c3 HCELL
          clear hcell hcell0 ho
          go_upto_region 19 with (go_at_call 11; refine HD.out.mono ?_; rintro e w2 ⟨p', rfl, h2⟩)
          have HF2 := Lib.hid (HF.out.next h2.out.1)
          have HSP := Lib.hid h2.out.2
          have hRl : R < w2.heap.size := (Array.getElem?_eq_some_iff.1 HF2.out.bx).1
          clear c0 c1 c2 c3 h2 HD HF
          obtain ⟨a0, b0, a1, b1, rfl, rfl⟩ := rs_sl HF2.out.rf
          have hS0 : w2.drew.cell? ⟨g, off + k * 4, none⟩ = some (.int .i64 od) ∧ w2.drew.cell? ⟨g, off + k * 4 + 1, none⟩ = some (.int .i64 oa) ∧ w2.drew.cell? ⟨g, off + k * 4 + 2, none⟩ = some (.int .i64 ob) ∧ w2.drew.cell? ⟨g, off + k * 4 + 3, none⟩ = some (.int .i64 oc) ∧ w2.drew.cell? ⟨R, 0, none⟩ = some (.slice a0 T.vols.length b0) ∧ w2.drew.cell? ⟨R, 1, none⟩ = some (.slice a1 T.snaps.length b1) := by obtain ⟨z0, z1, z2, z3⟩ := HCELL.out _ HF2.out.bl; exact ⟨z0, z1, z2, z3, cells_at HF2.out.bx 0, cells_at HF2.out.bx 1⟩
          refine reg_begin (fun w' => w'.cell? ⟨g, off + k * 4, none⟩ = some (.int .i64 od) ∧ w'.cell? ⟨g, off + k * 4 + 1, none⟩ = some (.int .i64 oa) ∧ w'.cell? ⟨g, off + k * 4 + 2, none⟩ = some (.int .i64 ob) ∧ w'.cell? ⟨g, off + k * 4 + 3, none⟩ = some (.int .i64 oc) ∧ w'.cell? ⟨R, 0, none⟩ = some (.slice a0 T.vols.length b0) ∧ w'.cell? ⟨R, 1, none⟩ = some (.slice a1 T.snaps.length b1)) (by kernel_rfl) ?_
          (apply reg_take 0 rfl rfl (by decide +kernel) rfl); (rintro w' ⟨h1, h2, h3, h4, h5, h6⟩; go_simp; rfl); exact hS0; simp only [List.setIfInBounds_toArray, List.set_cons_succ, List.set_cons_zero]
          (apply reg_take 1 rfl rfl (by decide +kernel) rfl); (rintro w' ⟨h1, h2, h3, h4, h5, h6⟩; go_simp; rfl); exact hS0; simp only [List.setIfInBounds_toArray, List.set_cons_succ, List.set_cons_zero]
          (apply reg_take 2 rfl rfl (by decide +kernel) rfl); (rintro w' ⟨h1, h2, h3, h4, h5, h6⟩; go_simp; rfl); exact hS0; simp only [List.setIfInBounds_toArray, List.set_cons_succ, List.set_cons_zero]
          (apply reg_take 3 rfl rfl (by decide +kernel) rfl); (rintro w' ⟨h1, h2, h3, h4, h5, h6⟩; go_simp; rfl); exact hS0; simp only [List.setIfInBounds_toArray, List.set_cons_succ, List.set_cons_zero]
          (apply reg_take 4 rfl rfl (by decide +kernel) rfl); (rintro w' ⟨h1, h2, h3, h4, h5, h6⟩; go_simp; rfl); exact hS0; simp only [List.setIfInBounds_toArray, List.set_cons_succ, List.set_cons_zero]
          have hdr : Below w2.heap.size w2 w2.drew := (Below.refl _ _).drew
          refine reg_fork 5 10 (by decide +kernel) ?_ ?_
          · -- the specified operation first
            refine rstep_call rfl rfl (by decide +kernel) rfl (f := 22) (args := #[.agg #[.slice a0 T.vols.length b0, .slice a1 T.snaps.length b1], .agg #[.int .i64 od, .int .i64 oa, .int .i64 ob, .int .i64 oc]]) (R := fun v w' => ∃ xa xs, v = .tuple #[.agg #[xa, xs], .int .i64 (stepM T ⟨od, oa, ob, oc⟩).id, .int .i64 (stepM T ⟨od, oa, ob, oc⟩).e] ∧ Hid (Below w2.heap.size w2 w' ∧ RefAt (fun b => b ≠ R) w' xa xs (doM T ⟨od, oa, ob, oc⟩))) (by kernel_rfl)
              ((spec_any (ok := fun b => b ≠ R) (.slice a0 T.vols.length b0) (.slice a1 T.snaps.length b1) T ⟨od, oa, ob, oc⟩ w2.drew (HF2.out.rf.below hdr) HWF.out).mono fun e w' h => by
                obtain ⟨xa, xs, h1, h3⟩ := h
                exact ⟨_, h1, xa, xs, rfl, hdr.trans h3.out.1, h3.out.2.weaken fun b hb _ => by
                  rcases hb with hb | hb
                  · exact hb
                  · exact fun e => by rw [e] at hb; exact absurd hRl (Nat.not_lt.2 hb)⟩) ?_
            rintro _ W3 ⟨xa, xs, rfl, h3⟩
            obtain ⟨ya, yb, yc, yd, rfl, rfl⟩ := rs_sl h3.out.2
            have HF3 := Lib.hid (HF2.out.next h3.out.1)
            have hS3 : W3.cell? ⟨g, off + k * 4, none⟩ = some (.int .i64 od) ∧ W3.cell? ⟨g, off + k * 4 + 1, none⟩ = some (.int .i64 oa) ∧ W3.cell? ⟨g, off + k * 4 + 2, none⟩ = some (.int .i64 ob) ∧ W3.cell? ⟨g, off + k * 4 + 3, none⟩ = some (.int .i64 oc) ∧ W3.cell? ⟨R, 0, none⟩ = some (.slice a0 T.vols.length b0) ∧ W3.cell? ⟨R, 1, none⟩ = some (.slice a1 T.snaps.length b1) := by obtain ⟨z0, z1, z2, z3⟩ := HCELL.out _ HF3.out.bl; exact ⟨z0, z1, z2, z3, cells_at HF3.out.bx 0, cells_at HF3.out.bx 1⟩
            refine ⟨hS3, ?_⟩
            simp only [List.setIfInBounds_toArray, List.set_cons_succ, List.set_cons_zero]
            (apply reg_take 6 rfl rfl (by decide +kernel) rfl); (rintro w' ⟨h1, h2, h3, h4, h5, h6⟩; go_simp; rfl); exact hS3; simp only [List.setIfInBounds_toArray, List.set_cons_succ, List.set_cons_zero]
            (apply reg_take 7 rfl rfl (by decide +kernel) rfl); (rintro w' ⟨h1, h2, h3, h4, h5, h6⟩; go_simp; rfl); exact hS3; simp only [List.setIfInBounds_toArray, List.set_cons_succ, List.set_cons_zero]
            (apply reg_take 8 rfl rfl (by decide +kernel) rfl); (rintro w' ⟨h1, h2, h3, h4, h5, h6⟩; go_simp; rfl); exact hS3; simp only [List.setIfInBounds_toArray, List.set_cons_succ, List.set_cons_zero]
            (apply reg_take 9 rfl rfl (by decide +kernel) rfl); (rintro w' ⟨h1, h2, h3, h4, h5, h6⟩; go_simp; rfl); exact hS3; simp only [List.setIfInBounds_toArray, List.set_cons_succ, List.set_cons_zero]
            have hb4 := (Below.refl W3.heap.size W3).alloc (Nat.le_refl _) (.cells #[.slice none 0 0, .slice none 0 0] TRS)
            have HF4 := Lib.hid (HF3.out.next hb4)
            have hS4 : (W3.alloc (.cells #[.slice none 0 0, .slice none 0 0] TRS)).cell? ⟨g, off + k * 4, none⟩ = some (.int .i64 od) ∧ (W3.alloc (.cells #[.slice none 0 0, .slice none 0 0] TRS)).cell? ⟨g, off + k * 4 + 1, none⟩ = some (.int .i64 oa) ∧ (W3.alloc (.cells #[.slice none 0 0, .slice none 0 0] TRS)).cell? ⟨g, off + k * 4 + 2, none⟩ = some (.int .i64 ob) ∧ (W3.alloc (.cells #[.slice none 0 0, .slice none 0 0] TRS)).cell? ⟨g, off + k * 4 + 3, none⟩ = some (.int .i64 oc) ∧ (W3.alloc (.cells #[.slice none 0 0, .slice none 0 0] TRS)).cell? ⟨R, 0, none⟩ = some (.slice a0 T.vols.length b0) ∧ (W3.alloc (.cells #[.slice none 0 0, .slice none 0 0] TRS)).cell? ⟨R, 1, none⟩ = some (.slice a1 T.snaps.length b1) := by obtain ⟨z0, z1, z2, z3⟩ := HCELL.out _ HF4.out.bl; exact ⟨z0, z1, z2, z3, cells_at HF4.out.bx 0, cells_at HF4.out.bx 1⟩
            refine reg_run 10 (.pointer (some ⟨W3.heap.size, 0, none⟩)) (W3.alloc (.cells #[.slice none 0 0, .slice none 0 0] TRS)) rfl rfl (by decide +kernel) rfl (by go_simp) (hS4) ?_; simp only [List.setIfInBounds_toArray, List.set_cons_succ, List.set_cons_zero]
            have hb5 := (Below.refl W3.heap.size W3).alloc (Nat.le_refl _) (.cells #[(.slice ya (doM T ⟨od, oa, ob, oc⟩).vols.length yb), (.slice yc (doM T ⟨od, oa, ob, oc⟩).snaps.length yd)] TRS)
            have HF5 := Lib.hid (HF3.out.next hb5)
            have hS5 : (W3.alloc (.cells #[(.slice ya (doM T ⟨od, oa, ob, oc⟩).vols.length yb), (.slice yc (doM T ⟨od, oa, ob, oc⟩).snaps.length yd)] TRS)).cell? ⟨g, off + k * 4, none⟩ = some (.int .i64 od) ∧ (W3.alloc (.cells #[(.slice ya (doM T ⟨od, oa, ob, oc⟩).vols.length yb), (.slice yc (doM T ⟨od, oa, ob, oc⟩).snaps.length yd)] TRS)).cell? ⟨g, off + k * 4 + 1, none⟩ = some (.int .i64 oa) ∧ (W3.alloc (.cells #[(.slice ya (doM T ⟨od, oa, ob, oc⟩).vols.length yb), (.slice yc (doM T ⟨od, oa, ob, oc⟩).snaps.length yd)] TRS)).cell? ⟨g, off + k * 4 + 2, none⟩ = some (.int .i64 ob) ∧ (W3.alloc (.cells #[(.slice ya (doM T ⟨od, oa, ob, oc⟩).vols.length yb), (.slice yc (doM T ⟨od, oa, ob, oc⟩).snaps.length yd)] TRS)).cell? ⟨g, off + k * 4 + 3, none⟩ = some (.int .i64 oc) ∧ (W3.alloc (.cells #[(.slice ya (doM T ⟨od, oa, ob, oc⟩).vols.length yb), (.slice yc (doM T ⟨od, oa, ob, oc⟩).snaps.length yd)] TRS)).cell? ⟨R, 0, none⟩ = some (.slice a0 T.vols.length b0) ∧ (W3.alloc (.cells #[(.slice ya (doM T ⟨od, oa, ob, oc⟩).vols.length yb), (.slice yc (doM T ⟨od, oa, ob, oc⟩).snaps.length yd)] TRS)).cell? ⟨R, 1, none⟩ = some (.slice a1 T.snaps.length b1) := by obtain ⟨z0, z1, z2, z3⟩ := HCELL.out _ HF5.out.bl; exact ⟨z0, z1, z2, z3, cells_at HF5.out.bx 0, cells_at HF5.out.bx 1⟩
            refine reg_do 11 (W3.alloc (.cells #[(.slice ya (doM T ⟨od, oa, ob, oc⟩).vols.length yb), (.slice yc (doM T ⟨od, oa, ob, oc⟩).snaps.length yd)] TRS)) rfl rfl (by decide +kernel) rfl (by go_simp) (hS5) ?_
            (apply reg_take 12 rfl rfl (by decide +kernel) rfl); (rintro w' ⟨h1, h2, h3, h4, h5, h6⟩; go_simp; rfl); exact hS5; simp only [List.setIfInBounds_toArray, List.set_cons_succ, List.set_cons_zero]
            (apply reg_take 13 rfl rfl (by decide +kernel) rfl); (rintro w' ⟨h1, h2, h3, h4, h5, h6⟩; go_simp; rfl); exact hS5; simp only [List.setIfInBounds_toArray, List.set_cons_succ, List.set_cons_zero]
            refine reg_done (by decide +kernel) ?_
            have HNB := Lib.hid (heap_alloc_new W3 (.cells #[(.slice ya (doM T ⟨od, oa, ob, oc⟩).vols.length yb), (.slice yc (doM T ⟨od, oa, ob, oc⟩).snaps.length yd)] TRS))
            have hsp5 := (HSP.out.below h3.out.1).below hb5
            have hrf5 := h3.out.2.below hb5
            clear hS0 hS3 hS4 hS5 hb4 hb5 h3 hdr hRl
            generalize W3.alloc (.cells #[(.slice ya (doM T ⟨od, oa, ob, oc⟩).vols.length yb), (.slice yc (doM T ⟨od, oa, ob, oc⟩).snaps.length yd)] TRS) = W5 at HNB hsp5 hrf5 HF5 ⊢
            generalize W3.heap.size = N at HNB ⊢
            have HE := Lib.hid (And.intro HF5.out (And.intro hsp5 hrf5))
            have nb := cells_at HNB.out 0; have nc := cells_at HNB.out 1
            have k0 := cells_at HE.out.1.bx 0; have k1 := cells_at HE.out.1.bx 1
            have f0 := thawed_at HE.out.1.bx 0; have f1 := thawed_at HE.out.1.bx 1
            go_wp2
            have hfin := HE.out.1.put HWR.out HE.out.2.1 HE.out.2.2
            refine ⟨⟨⟨k + 1, p', _, _, by omega, by rw [Int.natCast_add]; rfl, rfl, by rw [HTK.out]; exact hfin⟩⟩, by simp only [intOf]; omega⟩
          · -- its box first
            have hb3 := (Below.refl w2.heap.size w2).alloc (Nat.le_refl _) (.cells #[.slice none 0 0, .slice none 0 0] TRS)
            have hbd : Below w2.heap.size w2 (w2.drew.alloc (.cells #[.slice none 0 0, .slice none 0 0] TRS)) := hdr.alloc hdr.size _
            have HF3 := Lib.hid (HF2.out.next hbd)
            have hS3 : (w2.drew.alloc (.cells #[.slice none 0 0, .slice none 0 0] TRS)).cell? ⟨g, off + k * 4, none⟩ = some (.int .i64 od) ∧ (w2.drew.alloc (.cells #[.slice none 0 0, .slice none 0 0] TRS)).cell? ⟨g, off + k * 4 + 1, none⟩ = some (.int .i64 oa) ∧ (w2.drew.alloc (.cells #[.slice none 0 0, .slice none 0 0] TRS)).cell? ⟨g, off + k * 4 + 2, none⟩ = some (.int .i64 ob) ∧ (w2.drew.alloc (.cells #[.slice none 0 0, .slice none 0 0] TRS)).cell? ⟨g, off + k * 4 + 3, none⟩ = some (.int .i64 oc) ∧ (w2.drew.alloc (.cells #[.slice none 0 0, .slice none 0 0] TRS)).cell? ⟨R, 0, none⟩ = some (.slice a0 T.vols.length b0) ∧ (w2.drew.alloc (.cells #[.slice none 0 0, .slice none 0 0] TRS)).cell? ⟨R, 1, none⟩ = some (.slice a1 T.snaps.length b1) := by obtain ⟨z0, z1, z2, z3⟩ := HCELL.out _ HF3.out.bl; exact ⟨z0, z1, z2, z3, cells_at HF3.out.bx 0, cells_at HF3.out.bx 1⟩
            refine rstep_run (.pointer (some ⟨w2.drew.heap.size, 0, none⟩)) (w2.drew.alloc (.cells #[.slice none 0 0, .slice none 0 0] TRS)) rfl rfl (by decide +kernel) rfl (by go_simp) hS3 ?_
            simp only [List.setIfInBounds_toArray, List.set_cons_succ, List.set_cons_zero]
            have hnb := heap_alloc_new w2.drew (.cells #[.slice none 0 0, .slice none 0 0] TRS)
            have hrf3 : RefAt (fun b => b ≠ R ∧ b ≠ w2.drew.heap.size) (w2.drew.alloc (.cells #[.slice none 0 0, .slice none 0 0] TRS)) (.slice a0 T.vols.length b0) (.slice a1 T.snaps.length b1) T := (HF2.out.rf.weaken (ok' := fun b => b ≠ R ∧ b ≠ w2.drew.heap.size) fun b h1 h2 => ⟨h1, Nat.ne_of_lt h2⟩).below hbd
            have hsp3 := HSP.out.below hbd
            generalize w2.drew.alloc (.cells #[.slice none 0 0, .slice none 0 0] TRS) = W3 at hnb hrf3 hsp3 HF3 hS3 ⊢
            have HNRR := Lib.hid (show w2.drew.heap.size ≠ R from fun e => by rw [← e] at hRl; exact absurd hRl (Nat.lt_irrefl _))
            have HNW := Lib.hid (show w.heap.size ≤ w2.drew.heap.size from HF2.out.bl.size)
            generalize w2.drew.heap.size = N at hnb hrf3 HNRR HNW ⊢
            have HRF3 := Lib.hid hrf3
            have hNl : N < W3.heap.size := (Array.getElem?_eq_some_iff.1 hnb).1
            have hRl3 : R < W3.heap.size := (Array.getElem?_eq_some_iff.1 HF3.out.bx).1
            refine reg_call 5 rfl rfl (by decide +kernel) rfl (f := 22) (args := #[.agg #[.slice a0 T.vols.length b0, .slice a1 T.snaps.length b1], .agg #[.int .i64 od, .int .i64 oa, .int .i64 ob, .int .i64 oc]]) (R := fun v w' => ∃ xa xs, v = .tuple #[.agg #[xa, xs], .int .i64 (stepM T ⟨od, oa, ob, oc⟩).id, .int .i64 (stepM T ⟨od, oa, ob, oc⟩).e] ∧ Hid (Below W3.heap.size W3 w' ∧ RefAt (fun b => b ≠ R ∧ b ≠ N) w' xa xs (doM T ⟨od, oa, ob, oc⟩))) (by kernel_rfl)
              ((spec_any (ok := fun b => b ≠ R ∧ b ≠ N) (.slice a0 T.vols.length b0) (.slice a1 T.snaps.length b1) T ⟨od, oa, ob, oc⟩ W3 hrf3 HWF.out).mono fun e w' h => by
                obtain ⟨xa, xs, h1, h3⟩ := h
                exact ⟨_, h1, xa, xs, rfl, h3.out.1, h3.out.2.weaken fun b hb _ => by
                  rcases hb with hb | hb
                  · exact hb
                  · exact ⟨fun e => by rw [e] at hb; exact absurd hRl3 (Nat.not_lt.2 hb), fun e => by rw [e] at hb; exact absurd hNl (Nat.not_lt.2 hb)⟩⟩) ?_
            rintro _ W4 ⟨xa, xs, rfl, h3⟩
            obtain ⟨ya, yb, yc, yd, rfl, rfl⟩ := rs_sl h3.out.2
            have HF4 := Lib.hid (HF3.out.next h3.out.1)
            have hS4 : W4.cell? ⟨g, off + k * 4, none⟩ = some (.int .i64 od) ∧ W4.cell? ⟨g, off + k * 4 + 1, none⟩ = some (.int .i64 oa) ∧ W4.cell? ⟨g, off + k * 4 + 2, none⟩ = some (.int .i64 ob) ∧ W4.cell? ⟨g, off + k * 4 + 3, none⟩ = some (.int .i64 oc) ∧ W4.cell? ⟨R, 0, none⟩ = some (.slice a0 T.vols.length b0) ∧ W4.cell? ⟨R, 1, none⟩ = some (.slice a1 T.snaps.length b1) := by obtain ⟨z0, z1, z2, z3⟩ := HCELL.out _ HF4.out.bl; exact ⟨z0, z1, z2, z3, cells_at HF4.out.bx 0, cells_at HF4.out.bx 1⟩
            refine ⟨hS4, ?_⟩
            simp only [List.setIfInBounds_toArray, List.set_cons_succ, List.set_cons_zero]
            (apply reg_take 6 rfl rfl (by decide +kernel) rfl); (rintro w' ⟨h1, h2, h3, h4, h5, h6⟩; go_simp; rfl); exact hS4; simp only [List.setIfInBounds_toArray, List.set_cons_succ, List.set_cons_zero]
            (apply reg_take 7 rfl rfl (by decide +kernel) rfl); (rintro w' ⟨h1, h2, h3, h4, h5, h6⟩; go_simp; rfl); exact hS4; simp only [List.setIfInBounds_toArray, List.set_cons_succ, List.set_cons_zero]
            (apply reg_take 8 rfl rfl (by decide +kernel) rfl); (rintro w' ⟨h1, h2, h3, h4, h5, h6⟩; go_simp; rfl); exact hS4; simp only [List.setIfInBounds_toArray, List.set_cons_succ, List.set_cons_zero]
            (apply reg_take 9 rfl rfl (by decide +kernel) rfl); (rintro w' ⟨h1, h2, h3, h4, h5, h6⟩; go_simp; rfl); exact hS4; simp only [List.setIfInBounds_toArray, List.set_cons_succ, List.set_cons_zero]
            have hnb4 := (h3.out.1.block N hNl).trans hnb
            have k0 := cells_at hnb4 0; have k1 := cells_at hnb4 1
            have f0 := thawed_at hnb4 0; have f1 := thawed_at hnb4 1
            have hko : ∀ k', k' ≠ N → ((W4.setCell ⟨N, 0, none⟩ (.slice ya (doM T ⟨od, oa, ob, oc⟩).vols.length yb)).setCell ⟨N, 1, none⟩ (.slice yc (doM T ⟨od, oa, ob, oc⟩).snaps.length yd)).heap[k']? = W4.heap[k']? := fun k' h => (heap_setCell_other _ _ _ _ h).trans (heap_setCell_other _ _ _ _ h)
            have hNR : N ≠ R := fun e => by
              have h9 := HF4.out.bx
              rw [← e, hnb4] at h9
              have h8 := HNRR.out
              exact h8 e
            have hwN : w.heap.size ≤ N := HNW.out
            have HF5 := Lib.hid (show BuF w R p T (.slice a0 T.vols.length b0) (.slice a1 T.snaps.length b1) ((W4.setCell ⟨N, 0, none⟩ (.slice ya (doM T ⟨od, oa, ob, oc⟩).vols.length yb)).setCell ⟨N, 1, none⟩ (.slice yc (doM T ⟨od, oa, ob, oc⟩).snaps.length yd)) from
              ⟨(HF4.out.bl.setCell (p := ⟨N, 0, none⟩) hwN _).setCell (p := ⟨N, 1, none⟩) hwN _, space_noBox HF4.out.sp hnb4 (by simp [World.setCell]) fun k' h1 _ => hko k' h1,
               (((HRF3.out.below h3.out.1).keep (by simp [World.setCell]) fun b hb _ => hko b hb.2).weaken fun b hb _ => hb.1), (hko R hNR.symm).trans HF4.out.bx⟩)
            have hS5 : ((W4.setCell ⟨N, 0, none⟩ (.slice ya (doM T ⟨od, oa, ob, oc⟩).vols.length yb)).setCell ⟨N, 1, none⟩ (.slice yc (doM T ⟨od, oa, ob, oc⟩).snaps.length yd)).cell? ⟨g, off + k * 4, none⟩ = some (.int .i64 od) ∧ ((W4.setCell ⟨N, 0, none⟩ (.slice ya (doM T ⟨od, oa, ob, oc⟩).vols.length yb)).setCell ⟨N, 1, none⟩ (.slice yc (doM T ⟨od, oa, ob, oc⟩).snaps.length yd)).cell? ⟨g, off + k * 4 + 1, none⟩ = some (.int .i64 oa) ∧ ((W4.setCell ⟨N, 0, none⟩ (.slice ya (doM T ⟨od, oa, ob, oc⟩).vols.length yb)).setCell ⟨N, 1, none⟩ (.slice yc (doM T ⟨od, oa, ob, oc⟩).snaps.length yd)).cell? ⟨g, off + k * 4 + 2, none⟩ = some (.int .i64 ob) ∧ ((W4.setCell ⟨N, 0, none⟩ (.slice ya (doM T ⟨od, oa, ob, oc⟩).vols.length yb)).setCell ⟨N, 1, none⟩ (.slice yc (doM T ⟨od, oa, ob, oc⟩).snaps.length yd)).cell? ⟨g, off + k * 4 + 3, none⟩ = some (.int .i64 oc) ∧ ((W4.setCell ⟨N, 0, none⟩ (.slice ya (doM T ⟨od, oa, ob, oc⟩).vols.length yb)).setCell ⟨N, 1, none⟩ (.slice yc (doM T ⟨od, oa, ob, oc⟩).snaps.length yd)).cell? ⟨R, 0, none⟩ = some (.slice a0 T.vols.length b0) ∧ ((W4.setCell ⟨N, 0, none⟩ (.slice ya (doM T ⟨od, oa, ob, oc⟩).vols.length yb)).setCell ⟨N, 1, none⟩ (.slice yc (doM T ⟨od, oa, ob, oc⟩).snaps.length yd)).cell? ⟨R, 1, none⟩ = some (.slice a1 T.snaps.length b1) := by obtain ⟨z0, z1, z2, z3⟩ := HCELL.out _ HF5.out.bl; exact ⟨z0, z1, z2, z3, cells_at HF5.out.bx 0, cells_at HF5.out.bx 1⟩
            refine reg_do 11 ((W4.setCell ⟨N, 0, none⟩ (.slice ya (doM T ⟨od, oa, ob, oc⟩).vols.length yb)).setCell ⟨N, 1, none⟩ (.slice yc (doM T ⟨od, oa, ob, oc⟩).snaps.length yd)) rfl rfl (by decide +kernel) rfl (by go_simp) (hS5) ?_
            (apply reg_take 12 rfl rfl (by decide +kernel) rfl); (rintro w' ⟨h1, h2, h3, h4, h5, h6⟩; go_simp; rfl); exact hS5; simp only [List.setIfInBounds_toArray, List.set_cons_succ, List.set_cons_zero]
            (apply reg_take 13 rfl rfl (by decide +kernel) rfl); (rintro w' ⟨h1, h2, h3, h4, h5, h6⟩; go_simp; rfl); exact hS5; simp only [List.setIfInBounds_toArray, List.set_cons_succ, List.set_cons_zero]
            refine reg_done (by decide +kernel) ?_
            have HNB := Lib.hid (show ((W4.setCell ⟨N, 0, none⟩ (.slice ya (doM T ⟨od, oa, ob, oc⟩).vols.length yb)).setCell ⟨N, 1, none⟩ (.slice yc (doM T ⟨od, oa, ob, oc⟩).snaps.length yd)).heap[N]? = some (.cells #[(.slice ya (doM T ⟨od, oa, ob, oc⟩).vols.length yb), (.slice yc (doM T ⟨od, oa, ob, oc⟩).snaps.length yd)] TRS (0, 0)) from (((sat_block hnb4).setCell (i := 0) (.slice ya (doM T ⟨od, oa, ob, oc⟩).vols.length yb)).setCell (i := 1) (.slice yc (doM T ⟨od, oa, ob, oc⟩).snaps.length yd)).block)
            have hsp5 := space_noBox (w' := (W4.setCell ⟨N, 0, none⟩ (.slice ya (doM T ⟨od, oa, ob, oc⟩).vols.length yb)).setCell ⟨N, 1, none⟩ (.slice yc (doM T ⟨od, oa, ob, oc⟩).snaps.length yd)) (hsp3.below h3.out.1) hnb4 (by simp [World.setCell]) fun k' h1 _ => hko k' h1
            have hrf5 : RefAt (fun b => b ≠ R) ((W4.setCell ⟨N, 0, none⟩ (.slice ya (doM T ⟨od, oa, ob, oc⟩).vols.length yb)).setCell ⟨N, 1, none⟩ (.slice yc (doM T ⟨od, oa, ob, oc⟩).snaps.length yd)) (.slice ya (doM T ⟨od, oa, ob, oc⟩).vols.length yb) (.slice yc (doM T ⟨od, oa, ob, oc⟩).snaps.length yd) (doM T ⟨od, oa, ob, oc⟩) := ((h3.out.2.keep (by simp [World.setCell]) fun b hb _ => hko b hb.2).weaken fun b hb _ => hb.1)
            clear hS0 hS3 hS4 hS5 h3 hdr hRl hnb hnb4 k0 k1 f0 f1 hko hNR hwN hNl hRl3 hsp3 hrf3 hb3 hbd
            generalize (W4.setCell ⟨N, 0, none⟩ (.slice ya (doM T ⟨od, oa, ob, oc⟩).vols.length yb)).setCell ⟨N, 1, none⟩ (.slice yc (doM T ⟨od, oa, ob, oc⟩).snaps.length yd) = W5 at HNB hsp5 hrf5 HF5 ⊢
            have HE := Lib.hid (And.intro HF5.out (And.intro hsp5 hrf5))
            have nb := cells_at HNB.out 0; have nc := cells_at HNB.out 1
            have k0 := cells_at HE.out.1.bx 0; have k1 := cells_at HE.out.1.bx 1
            have f0 := thawed_at HE.out.1.bx 0; have f1 := thawed_at HE.out.1.bx 1
            go_wp2
            have hfin := HE.out.1.put HWR.out HE.out.2.1 HE.out.2.2
            refine ⟨⟨⟨k + 1, p', _, _, by omega, by rw [Int.natCast_add]; rfl, rfl, by rw [HTK.out]; exact hfin⟩⟩, by simp only [intOf]; omega⟩
        · obtain rfl : k = ml.length := by omega
          have hltd : decide ((ml.length : Int) < (ml.length : Int)) = false := decide_eq_false (by omega)
          rw [List.take_length] at HF
          have HWF := Lib.hid (runV_wf HW2.out ml)
          generalize runV S ml = T at HF HWF
          obtain ⟨a0, b0, a1, b1, rfl, rfl⟩ := rs_sl HF.out.rf
          have HBX := HF
          go_wp2_with (first
            | (go_at_call 9; refine (sanity_any _).mono ?_; rintro e w10 ⟨rfl, h10⟩; replace HF := Lib.hid (HF.out.next h10); have r0 := cells_at HF.out.bx 0; have r1 := cells_at HF.out.bx 1)
            | (go_at_call 25; refine (same27_any p T _ _ _ HF.out.sp HWF.out HF.out.rf).mono ?_; rintro e w4 ⟨rfl, h4⟩; replace HF := Lib.hid (HF.out.next h4)))
          go_ret
          exact ⟨rfl, HF.out.bl⟩
set_option maxRecDepth 100000 in
theorem volumeBuilds_lifted (os : Os) (started : os.Started) (H : Type) (enc : TypeId × Value → H) :
    ReturnsInHanded {} Try.checked os 7 .any (Rows.volumeBuildsSpec.pre6 enc Try.prog Try.f7 Rows.volumeBuildsRow.domain false) (Rows.volumeBuildsSpec.post enc Try.prog Try.f7 false true false false) := by
  refine returnsInHanded_of_change (C := Try.checked) law_own started (by kernel_rfl) Try.func7
    (ChangeSpec.witness6 (enc := enc) (C := Try.checked) false ⟨#[], #[.slice none 0 0, .slice none 0 0], []⟩ 8 (by kernel_rfl) (by kernel_rfl) (by kernel_rfl) (by kernel_rfl)) ?_
  intro W base args ds gs before hval0 hW _ _
  have hval : ∀ (j : Nat) t v, Try.f7.params[j]? = some t → args[j]? = some v → Value.okWide Try.prog W .any base t v := hval0
  have hW' := hW
  obtain ⟨p, q, hA0, hV, rfl, _, _⟩ := hW
  have hA : DataW.TrodAll enc Try.prog W 0 (fun _ => true) true Try.f7.params.toList args.toList ds p := hA0
  rw [Try.params7] at hA hval
  obtain ⟨w0, vs0, d0, ds0, p0, q0, hargs, rfl, rfl, h0, r0⟩ := trodAll_cons hA
  obtain ⟨w1, vs1, d1, ds1, p1, q1, rfl, rfl, rfl, h1, r1⟩ := trodAll_cons r0
  obtain ⟨rfl, rfl, rfl⟩ := trodAll_nil r1
  obtain rfl : args = #[w0, w1] := by cases args; simp_all
  obtain ⟨rfl, rfl⟩ := trodVars_none hV
  obtain ⟨v0, l0, e0, s0⟩ := rd_vscript (trod_rd h0)
  obtain ⟨x0, y0, z0, rfl⟩ := okWide_slice Try.underlying22 (hval 0 _ w0 rfl rfl)
  obtain rfl : .slice x0 y0 z0 = v0 := by simpa [Value.cells] using e0
  obtain ⟨v1, l1, e1, s1⟩ := rd_vscript (trod_rd h1)
  obtain ⟨x1, y1, z1, rfl⟩ := okWide_slice Try.underlying22 (hval 1 _ w1 rfl rfl)
  obtain rfl : .slice x1 y1 z1 = v1 := by simpa [Value.cells] using e1
  refine (builds_law _ _ l0 l1 W s0 s1).mono fun e W' ⟨he, hg⟩ => ?_
  subst he
  exact ⟨_, rfl, law_post (by kernel_rfl) rfl (of_decide_eq_true (by kernel_rfl)) rfl hW' hg⟩

theorem volumeBuilds_holds : Rows.VolumeBuildsSaid :=
  OpenClaim.holds_of_wide 7 Try.f7 rfl rfl rfl rfl rfl rfl rfl ⟨rfl, rfl, rfl, rfl, rfl⟩ rfl rfl rfl rfl rfl (by kernel_rfl) Try.func7 (by kernel_rfl)
    (of_decide_eq_true (by kernel_rfl)) (by unfold Func.isWrapper; first | (rw [if_pos (by decide +kernel)]; kernel_rfl) | (rw [if_neg (by decide +kernel)]; exact ⟨rfl, rfl⟩))
    (fun os started H enc _ => volumeBuilds_lifted os started H enc)


end Go.Proofs.Ytednjhlkhecihaa
