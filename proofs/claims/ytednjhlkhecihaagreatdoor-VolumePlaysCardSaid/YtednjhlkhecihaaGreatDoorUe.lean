/- solventref27.Space: Clone, Volumes, All, Content, Image. Printed by ue.py. -/
import Derived.Test.YtednjhlkhecihaaGreatDoorUd
import Derived.Test.YtednjhlkhecihaaGreatDoorWv
import Derived.Test.YtednjhlkhecihaaGreatDoorWm
namespace Go.Proofs.YtednjhlkhecihaaGreatDoor
open Go.RowKit Go.Vol Go.Sl

theorem create_err {S : SpaceM} {t : Int} (m : MapM) : (∃ ev, ev ≠ 0 ∧ S.create t Vol.empty = ⟨none, 0, ev⟩ ∧ S.create t m = ⟨none, 0, ev⟩) ∨
    (S.create t Vol.empty = ⟨some { S with vols := S.vols.insertIdx (free S.vols) ⟨free S.vols, t, 0, Vol.empty⟩ }, free S.vols, 0⟩ ∧ S.create t m = ⟨some { S with vols := S.vols.insertIdx (free S.vols) ⟨free S.vols, t, 0, m⟩ }, free S.vols, 0⟩ ∧ S.vols.length < 64) := by
  unfold SpaceM.create
  by_cases h1 : tenB t = false
  · rw [if_pos h1, if_pos h1]
    exact .inl ⟨1, by decide, rfl, rfl⟩
  · rw [if_neg h1, if_neg h1]
    by_cases h2 : 64 ≤ S.vols.length
    · rw [if_pos h2, if_pos h2]
      exact .inl ⟨2, by decide, rfl, rfl⟩
    · rw [if_neg h2, if_neg h2]
      exact .inr ⟨rfl, rfl, by omega⟩

set_option maxRecDepth 20000 in
set_option maxHeartbeats 4000000 in
theorem rclone_any {ok : Nat → Prop} (vv vs : Value) (S : SpaceM) (snap t : Int) (w : World) (hS : RefAt ok w vv vs S) (hwf : S.WF) :
    Calls Tryz.prog 35 #[.agg #[vv, vs], .int .i64 snap, .int .i64 t] w (RRes3 ok w (S.clone snap t)) := by
  obtain ⟨va, vc, rfl, hvc, hvm⟩ := hS.v.slice
  obtain ⟨sa, sc, rfl, hsc, hsm⟩ := hS.s.slice
  unfold maxLen at hvm hsm
  have HS := Lib.hid (And.intro hS hwf)
  have hvl := hwf.vlen
  have hsl := hwf.slen
  have H0 : Hid (Same w ((w.alloc (.cells #[.slice va S.vols.length vc, .slice sa S.snaps.length sc] TRS)).alloc (.cells #[.slice none 0 0, .slice none 0 0] TRS)) ∧ Sat ((w.alloc (.cells #[.slice va S.vols.length vc, .slice sa S.snaps.length sc] TRS)).alloc (.cells #[.slice none 0 0, .slice none 0 0] TRS)) (pts w.heap.size (.cells #[.slice va S.vols.length vc, .slice sa S.snaps.length sc] TRS (0, 0)) * (pts (w.heap.size + 1) (.cells #[.slice none 0 0, .slice none 0 0] TRS (0, 0)) * old w))) := boxes_new w _ _
  have HB := Lib.hid ((Below.refl w.heap.size w))
  clear hS hwf
  go_enter Tryz.func35, Tryz.ntmps35
  go_upto_region 1 with (fail)
  replace H1 := H0
  clear H0
  generalize ((w.alloc (.cells #[.slice va S.vols.length vc, .slice sa S.snaps.length sc] TRS)).alloc (.cells #[.slice none 0 0, .slice none 0 0] TRS)) = W1 at H1 ⊢
  generalize hBB : w.heap.size = B at H1 ⊢
  have c0 := cells_at H1.out.2.block 0; have c1 := cells_at H1.out.2.block 1; have d0 := cells_at H1.out.2.right.block 0; have d1 := cells_at H1.out.2.right.block 1; have f0 := thawed_at H1.out.2.block 0; have g0 := thawed_at H1.out.2.right.block 0; have g1 := thawed_at H1.out.2.right.block 1; have f1 := thawed_at H1.out.2.block 1

  have hb1 : Below w.heap.size w W1 := two_below H1.out.1 H1.out.2
  have HAS := Lib.hid (fun (W : World) (hb : Below w.heap.size w W) => rat_any (.slice sa S.snaps.length sc) S.snaps snap W (HS.out.1.s.below hb))
  have HB1 := Lib.hid hb1
  clear hb1
  rcases atP_cases S.snaps snap with ⟨hn, hi⟩ | ⟨p, hp, hi, hlt, hid⟩
  · have HR := Lib.hid (show S.clone snap t = ⟨none, 0, 12⟩ by unfold SpaceM.clone; rw [hn])
    rw [hi] at HAS
    clear hn hi
    go_upto_region 3 with (go_at_call 51; refine (HAS.out _ HB1.out).mono ?_; rintro e W2 ⟨rfl, h2⟩; replace HB1 := Lib.hid (HB1.out.trans (h2.mono HB1.out.size)); replace H1 := Lib.hid (And.intro (H1.out.1.trans (same_below h2)) (H1.out.2.keep h2.block)); clear c0 c1 d0 d1 f0 f1 g0 g1; have c0 := cells_at H1.out.2.block 0; have c1 := cells_at H1.out.2.block 1; have d0 := cells_at H1.out.2.right.block 0; have d1 := cells_at H1.out.2.right.block 1; have f0 := thawed_at H1.out.2.block 0; have g0 := thawed_at H1.out.2.right.block 0; have g1 := thawed_at H1.out.2.right.block 1; have f1 := thawed_at H1.out.2.block 1; clear h2)
    go_wp2
    have HF := box_res (.slice none 0 0) (.slice none 0 0) H1.out.1 H1.out.2
    refine bodyPost_ret (results_c3 rfl rfl rfl rfl HF.out.2.right.block) rfl ?_
    rw [HR.out]
    exact ⟨_, _, rfl, by subst hBB; exact two_below HF.out.1 HF.out.2, rfl, rfl⟩
  · rw [hi] at HAS
    have hcl : S.clone snap t = S.create t p.m := by unfold SpaceM.clone; rw [hp]
    obtain ⟨g, pa, pc, rfl, hg, e0, e1, e2, e3, hrow⟩ := part_at HS.out.1.s hp
    have HCR := Lib.hid (fun (W : World) (hb : Below w.heap.size w W) => rcreate_any (ok := fun b => ok b ∧ b < w.heap.size) (.slice va S.vols.length vc) (.slice (some ⟨g, 0, none⟩) S.snaps.length sc) S t W ⟨in_ref HS.out.1.v hb, in_ref HS.out.1.s hb⟩ HS.out.2)
    have HE := Lib.hid (And.intro hg e3)
    have HROW := Lib.hid hrow
    generalize hk : atN S.snaps snap = k at *
    have hneg : decide ((k : Int) < 0) = false := decide_eq_false (by omega)
    have hk63 : (k : Int) ≤ 256 := by omega
    generalize hpn : (items p.m).length = pn at HE
    clear hp hi hid hk e0 e1 e2 e3 hrow hg
    go_upto_region 4 with (go_at_call 51; refine (HAS.out _ HB1.out).mono ?_; rintro e W2 ⟨rfl, h2⟩; replace HB1 := Lib.hid (HB1.out.trans (h2.mono HB1.out.size)); replace H1 := Lib.hid (And.intro (H1.out.1.trans (same_below h2)) (H1.out.2.keep h2.block)); clear c0 c1 d0 d1 f0 f1 g0 g1; have c0 := cells_at H1.out.2.block 0; have c1 := cells_at H1.out.2.block 1; have d0 := cells_at H1.out.2.right.block 0; have d1 := cells_at H1.out.2.right.block 1; have f0 := thawed_at H1.out.2.block 0; have g0 := thawed_at H1.out.2.right.block 0; have g1 := thawed_at H1.out.2.right.block 1; have f1 := thawed_at H1.out.2.block 1; clear h2)
    have e3 := (HB1.out.cell (p := ⟨g, k * 4 + 3, none⟩) HE.out.1).trans HE.out.2
    rcases create_err (S := S) (t := t) p.m with ⟨ev, hev, h0, hm⟩ | ⟨h0, hm, hl64⟩
    · have HR := Lib.hid (show S.clone snap t = ⟨none, 0, ev⟩ by rw [hcl, hm])
      have hevd : (ev != 0) = true := by simpa using hev
      rw [h0] at HCR
      clear h0 hm hcl hev
      go_upto_region 6 with (go_at_call 28; refine (HCR.out _ HB1.out).mono ?_; rintro e W3 ⟨xv, xs, rfl, h3⟩; have HLT := Lib.hid H1.out.2.right.lt; have HLT9 := Lib.hid h3.out.1.size; replace H1 := Lib.hid (And.intro (H1.out.1.trans (same_below h3.out.1)) (H1.out.2.keep h3.out.1.block)); clear c0 c1 d0 d1 f0 f1 g0 g1; have c0 := cells_at H1.out.2.block 0; have c1 := cells_at H1.out.2.block 1; have d0 := cells_at H1.out.2.right.block 0; have d1 := cells_at H1.out.2.right.block 1; have f0 := thawed_at H1.out.2.block 0; have g0 := thawed_at H1.out.2.right.block 0; have g1 := thawed_at H1.out.2.right.block 1; have f1 := thawed_at H1.out.2.block 1; obtain ⟨rfl, rfl⟩ : xv = .slice none 0 0 ∧ xs = .slice none 0 0 := h3.out.2)
      clear h3 e3
      have hq := box_snd (.slice none 0 0) (box_fst (.slice none 0 0) H1.out.1 H1.out.2).out.1 (box_fst (.slice none 0 0) H1.out.1 H1.out.2).out.2
      have ho : ∀ k, k ≠ B → k ≠ B + 1 → ((W3.setCell ⟨B, 0, none⟩ (.slice none 0 0)).setCell ⟨B, 1, none⟩ (.slice none 0 0)).heap[k]? = W3.heap[k]? := fun k h1 _ => (heap_setCell_other _ _ _ _ h1).trans (heap_setCell_other _ _ _ _ h1)
      have hz : W3.heap.size ≤ ((W3.setCell ⟨B, 0, none⟩ (.slice none 0 0)).setCell ⟨B, 1, none⟩ (.slice none 0 0)).heap.size := by simp [World.setCell]
      generalize ((W3.setCell ⟨B, 0, none⟩ (.slice none 0 0)).setCell ⟨B, 1, none⟩ (.slice none 0 0)) = W4 at hq ho hz ⊢
      replace H1 := hq
      have HO4 := Lib.hid (And.intro ho hz)
      clear c0 c1 d0 d1 f0 f1 g0 g1; have c0 := cells_at H1.out.2.block 0; have c1 := cells_at H1.out.2.block 1; have d0 := cells_at H1.out.2.right.block 0; have d1 := cells_at H1.out.2.right.block 1; have f0 := thawed_at H1.out.2.block 0; have g0 := thawed_at H1.out.2.right.block 0; have g1 := thawed_at H1.out.2.right.block 1; have f1 := thawed_at H1.out.2.block 1
      clear hq ho hz
      go_upto_region 7 with (fail)
      go_wp2
      have HF := box_res (.slice none 0 0) (.slice none 0 0) H1.out.1 H1.out.2
      refine bodyPost_ret (results_c3 rfl rfl rfl rfl HF.out.2.right.block) rfl ?_
      rw [HR.out]
      exact ⟨_, _, rfl, by subst hBB; exact two_below HF.out.1 HF.out.2, rfl, rfl⟩
    · obtain ⟨L0, hL0⟩ : ∃ L0, L0 = S.vols.insertIdx (free S.vols) ⟨free S.vols, t, 0, Vol.empty⟩ := ⟨_, rfl⟩
      obtain ⟨LN, hLN⟩ : ∃ LN, LN = S.vols.insertIdx (free S.vols) ⟨free S.vols, t, 0, p.m⟩ := ⟨_, rfl⟩
      have HR := Lib.hid (show S.clone snap t = ⟨some { S with vols := LN }, free S.vols, 0⟩ by rw [hcl, hm, hLN])
      rw [h0, ← hL0] at HCR
      have hfl := free_le HS.out.2.vols
      have hat0 : atN L0 (free S.vols : Int) = free S.vols := by rw [hL0]; exact atN_new (q := ⟨free S.vols, t, 0, Vol.empty⟩) (free_new HS.out.2.vols) hfl
      have hl0 : L0.length = S.vols.length + 1 := by rw [hL0, List.length_insertIdx_of_le_length hfl]
      have hatp : atP L0 (free S.vols : Int) = (free S.vols : Int) := by unfold atP; rw [hat0, if_pos (by omega)]
      have hset : L0.set (free S.vols) ⟨free S.vols, t, 0, p.m⟩ = LN := by rw [hL0, hLN]; exact insert_set _ _ _ _ hfl
      have HX := Lib.hid (And.intro hatp (And.intro hset hl0))
      generalize free S.vols = fr at *
      have hnegf : decide ((fr : Int) < 0) = false := decide_eq_false (by omega)
      clear h0 hm hcl hL0 hLN hatp hset hat0 hl0
      go_upto_region 6 with (go_at_call 28; refine (HCR.out _ HB1.out).mono ?_; rintro e W3 ⟨xv, xs, rfl, h3⟩; have HLT := Lib.hid H1.out.2.right.lt; have HLT9 := Lib.hid h3.out.1.size; replace H1 := Lib.hid (And.intro (H1.out.1.trans (same_below h3.out.1)) (H1.out.2.keep h3.out.1.block)); clear c0 c1 d0 d1 f0 f1 g0 g1; have c0 := cells_at H1.out.2.block 0; have c1 := cells_at H1.out.2.block 1; have d0 := cells_at H1.out.2.right.block 0; have d1 := cells_at H1.out.2.right.block 1; have f0 := thawed_at H1.out.2.block 0; have g0 := thawed_at H1.out.2.right.block 0; have g1 := thawed_at H1.out.2.right.block 1; have f1 := thawed_at H1.out.2.block 1; obtain ⟨xa, xc, rfl, _⟩ := (show RefAt _ _ _ _ _ from h3.out.2).v.slice; obtain ⟨ya, yc, rfl, _⟩ := (show RefAt _ _ _ _ _ from h3.out.2).s.slice)
      have H3 := Lib.hid (show RefAt _ _ _ _ _ from h3.out.2)
      clear h3 e3
      try simp only at H3 ⊢
      have hq := box_snd (.slice ya S.snaps.length yc) (box_fst (.slice xa L0.length xc) H1.out.1 H1.out.2).out.1 (box_fst (.slice xa L0.length xc) H1.out.1 H1.out.2).out.2
      have ho : ∀ k, k ≠ B → k ≠ B + 1 → ((W3.setCell ⟨B, 0, none⟩ (.slice xa L0.length xc)).setCell ⟨B, 1, none⟩ (.slice ya S.snaps.length yc)).heap[k]? = W3.heap[k]? := fun k h1 _ => (heap_setCell_other _ _ _ _ h1).trans (heap_setCell_other _ _ _ _ h1)
      have hz : W3.heap.size ≤ ((W3.setCell ⟨B, 0, none⟩ (.slice xa L0.length xc)).setCell ⟨B, 1, none⟩ (.slice ya S.snaps.length yc)).heap.size := by simp [World.setCell]
      generalize ((W3.setCell ⟨B, 0, none⟩ (.slice xa L0.length xc)).setCell ⟨B, 1, none⟩ (.slice ya S.snaps.length yc)) = W4 at hq ho hz ⊢
      replace H1 := hq
      have HO4 := Lib.hid (And.intro ho hz)
      clear c0 c1 d0 d1 f0 f1 g0 g1; have c0 := cells_at H1.out.2.block 0; have c1 := cells_at H1.out.2.block 1; have d0 := cells_at H1.out.2.right.block 0; have d1 := cells_at H1.out.2.right.block 1; have f0 := thawed_at H1.out.2.block 0; have g0 := thawed_at H1.out.2.right.block 0; have g1 := thawed_at H1.out.2.right.block 1; have f1 := thawed_at H1.out.2.block 1
      clear hq ho hz
      have hne : ∀ b, newer (fun b => ok b ∧ b < w.heap.size) W2 b → b ≠ B ∧ b ≠ B + 1 := fun b hb => by
        have := HLT.out
        rcases hb with hb | hb
        · exact ⟨by omega, by omega⟩
        · exact ⟨by omega, by omega⟩
      have H4 := Lib.hid (H3.out.keep HO4.out.2 fun b hb _ => HO4.out.1 b (hne b hb).1 (hne b hb).2)
      have HB4 := Lib.hid (two_below H1.out.1 H1.out.2)
      clear HB1 hne
      have HAT := Lib.hid (rat_any _ L0 (fr : Int) W4 H4.out.v)
      rw [HX.out.1] at HAT
      go_upto_region 9 with (go_at_call 51; refine HAT.out.mono ?_; rintro e W5 ⟨rfl, h5⟩; replace H1 := Lib.hid (And.intro (H1.out.1.trans (same_below h5)) (H1.out.2.keep h5.block)); clear c0 c1 d0 d1 f0 f1 g0 g1; have c0 := cells_at H1.out.2.block 0; have c1 := cells_at H1.out.2.block 1; have d0 := cells_at H1.out.2.right.block 0; have d1 := cells_at H1.out.2.right.block 1; have f0 := thawed_at H1.out.2.block 0; have g0 := thawed_at H1.out.2.right.block 0; have g1 := thawed_at H1.out.2.right.block 1; have f1 := thawed_at H1.out.2.block 1)
      have hw := rwith_any _ L0 fr (fr : Int) t 0 p.m pa (items p.m).length pc W5 (H4.out.v.below h5) (by have := HX.out.2.2; omega) (by have := HX.out.2.2; omega) (((in_row HROW.out (HB4.out.trans (h5.mono HB4.out.size))).weaken fun _ h _ => .inl h))
      rw [HX.out.2.1, hpn] at hw
      have HWI := Lib.hid hw
      have HS5 := Lib.hid (H4.out.s.below h5)
      have HZ5 := Lib.hid h5.size
      clear hw
      go_upto_region 10 with (go_at_call 75; refine HWI.out.mono ?_; rintro e W7 ⟨v7, rfl, h7⟩; obtain ⟨a7, k7, rfl, _⟩ := h7.out.2.slice; have HCW := Lib.hid (And.intro h7.out.2 (HS5.out.below h7.out.1)); replace H1 := Lib.hid (And.intro (H1.out.1.trans (same_below h7.out.1)) (H1.out.2.keep h7.out.1.block)); clear c0 c1 d0 d1 f0 f1 g0 g1; have c0 := cells_at H1.out.2.block 0; have c1 := cells_at H1.out.2.block 1; have d0 := cells_at H1.out.2.right.block 0; have d1 := cells_at H1.out.2.right.block 1; have f0 := thawed_at H1.out.2.block 0; have g0 := thawed_at H1.out.2.right.block 0; have g1 := thawed_at H1.out.2.right.block 1; have f1 := thawed_at H1.out.2.block 1; clear h7)
      clear h5
      have HPR := Lib.hid (show ∀ b, newer (newer (fun b => ok b ∧ b < w.heap.size) W2) W5 b → b ≠ B ∧ b ≠ B + 1 ∧ newer ok w b from by
        intro b hb
        have h1 := HLT.out
        have h2 := HO4.out.2
        have h3 := HZ5.out
        have h4 := HLT9.out
        rcases hb with (hb | hb) | hb
        · exact ⟨by omega, by omega, .inl hb.1⟩
        · exact ⟨by omega, by omega, .inr (by omega)⟩
        · exact ⟨by omega, by omega, .inr (by omega)⟩)
      have hq := box_fst (.slice a7 LN.length k7) H1.out.1 H1.out.2
      have ho : ∀ k, k ≠ B → k ≠ B + 1 → (W7.setCell ⟨B, 0, none⟩ (.slice a7 LN.length k7)).heap[k]? = W7.heap[k]? := fun k h1 _ => heap_setCell_other _ _ _ _ h1
      have hz : W7.heap.size ≤ (W7.setCell ⟨B, 0, none⟩ (.slice a7 LN.length k7)).heap.size := by simp [World.setCell]
      generalize W7.setCell ⟨B, 0, none⟩ (.slice a7 LN.length k7) = W4 at hq ho hz ⊢
      replace H1 := hq
      have HO := Lib.hid (And.intro ho hz)
      clear c0 c1 d0 d1 f0 f1 g0 g1; have c0 := cells_at H1.out.2.block 0; have c1 := cells_at H1.out.2.block 1; have d0 := cells_at H1.out.2.right.block 0; have d1 := cells_at H1.out.2.right.block 1; have f0 := thawed_at H1.out.2.block 0; have g0 := thawed_at H1.out.2.right.block 0; have g1 := thawed_at H1.out.2.right.block 1; have f1 := thawed_at H1.out.2.block 1
      clear hq ho hz
      go_wp2
      have HF := box_res (.slice a7 LN.length k7) (.slice ya S.snaps.length yc) H1.out.1 H1.out.2
      have hbf := two_below HF.out.1 HF.out.2
      have hzf : W7.heap.size ≤ ((W4.setCell ⟨B + 1, 0, none⟩ (.slice a7 LN.length k7)).setCell ⟨B + 1, 1, none⟩ (.slice ya S.snaps.length yc)).heap.size := by have := HO.out.2; simpa [World.setCell] using this
      have hof : ∀ k, k ≠ B → k ≠ B + 1 → ((W4.setCell ⟨B + 1, 0, none⟩ (.slice a7 LN.length k7)).setCell ⟨B + 1, 1, none⟩ (.slice ya S.snaps.length yc)).heap[k]? = W7.heap[k]? := fun k h1 h2 => ((heap_setCell_other _ _ _ _ h2).trans (heap_setCell_other _ _ _ _ h2)).trans (HO.out.1 k h1 h2)
      try simp only [Exit.inBlock, Exit.then]
      refine bodyPost_ret (results_c3 rfl rfl rfl rfl HF.out.2.right.block) rfl ?_
      rw [HR.out]
      refine ⟨_, _, rfl, hbf, ?_, ?_⟩
      · exact finG HPR.out HCW.out.1 hzf hof
      · exact finG (fun b hb => HPR.out b (.inl hb)) HCW.out.2 hzf hof

set_option maxRecDepth 20000 in
set_option maxHeartbeats 4000000 in
theorem rcont_any {ok : Nat → Prop} (vv vs : Value) (S : SpaceM) (id : Int) (w : World) (hS : RefAt ok w vv vs S) (hl : S.vols.length ≤ 1000) :
    Calls Tryz.prog 42 #[.agg #[vv, vs], .int .i64 id] w fun e w' => ∃ r, e = .returned (.tuple #[r, .int .i64 (contM S id).2]) ∧ Hid (Below w.heap.size w w' ∧ RowsAt w' r (contM S id).1.length ((contM S id).1.flatMap refE)) := by
  obtain ⟨va, vc, rfl, hvc, hvm⟩ := hS.v.slice
  obtain ⟨sa, sc, rfl, hsc, hsm⟩ := hS.s.slice
  have HS := Lib.hid hS
  have hb0 := (Below.refl w.heap.size w).alloc (Nat.le_refl _) (.cells #[.slice va S.vols.length vc, .slice sa S.snaps.length sc] TRS)
  have hblk := heap_alloc_new w (.cells #[.slice va S.vols.length vc, .slice sa S.snaps.length sc] TRS)
  have HAT := Lib.hid (rat_any (.slice va S.vols.length vc) S.vols id (w.alloc (.cells #[.slice va S.vols.length vc, .slice sa S.snaps.length sc] TRS)) (hS.v.below hb0))
  rcases atP_cases S.vols id with ⟨hn, hi⟩ | ⟨p, hp, hi, hlt, hid⟩
  · have HM := Lib.hid (show contM S id = ([], 12) by unfold contM volF; rw [← atN_find, hn])
    rw [hi] at HAT
    have HB := Lib.hid hb0
    clear hS hvc hvm hsc hsm hb0 hblk hn hi
    go_enter Tryz.func42, Tryz.ntmps42
    go_wp2_with (go_at_call 51; refine HAT.out.mono ?_; rintro e W2 ⟨rfl, h2⟩)
    go_ret2
    refine ⟨_, by rw [HM.out]; rfl, HB.out.trans (h2.mono HB.out.size), ?_⟩
    rw [HM.out]
    exact RowsAt.nil _
  · have HM := Lib.hid (show contM S id = (items p.m, 0) by unfold contM volF; rw [← atN_find, hp])
    rw [hi] at HAT
    obtain ⟨g, pa, pc, rfl, hg, e0, e1, e2, e3, hrow⟩ := part_at hS.v hp
    have HE := Lib.hid (And.intro hg (And.intro e3 (And.intro hrow (And.intro hblk hb0))))
    generalize hk : atN S.vols id = k at *
    have hneg : decide ((k : Int) < 0) = false := decide_eq_false (by omega)
    have hk63 : (k : Int) ≤ 1000 := by omega
    clear hS hvc hvm hsc hsm hb0 hblk hp hi hid hk e0 e1 e2 e3 hrow hg
    go_enter Tryz.func42, Tryz.ntmps42
    go_upto_region 4 with (go_at_call 51; refine HAT.out.mono ?_; rintro e W2 ⟨rfl, h2⟩)
    have hbk := (h2.block _ (Array.getElem?_eq_some_iff.1 HE.out.2.2.2.1).1).trans HE.out.2.2.2.1
    have c0 := cells_at hbk 0; have c1 := cells_at hbk 1
    have hbw := HE.out.2.2.2.2.trans (h2.mono HE.out.2.2.2.2.size)
    have e3 := (hbw.cell (p := ⟨g, k * 4 + 3, none⟩) HE.out.1).trans HE.out.2.1
    have HBW := Lib.hid hbw
    clear hbw hbk h2
    go_wp2
    go_ret2
    refine ⟨_, by rw [HM.out]; rfl, HBW.out, ?_⟩
    rw [HM.out]
    exact (HE.out.2.2.1.below HBW.out).rows

set_option maxRecDepth 20000 in
set_option maxHeartbeats 4000000 in
theorem rimg_any {ok : Nat → Prop} (vv vs : Value) (S : SpaceM) (id : Int) (w : World) (hS : RefAt ok w vv vs S) (hl : S.snaps.length ≤ 1000) :
    Calls Tryz.prog 45 #[.agg #[vv, vs], .int .i64 id] w fun e w' => ∃ r, e = .returned (.tuple #[r, .int .i64 (imageM S id).2]) ∧ Hid (Below w.heap.size w w' ∧ RowsAt w' r (imageM S id).1.length ((imageM S id).1.flatMap refE)) := by
  obtain ⟨va, vc, rfl, hvc, hvm⟩ := hS.v.slice
  obtain ⟨sa, sc, rfl, hsc, hsm⟩ := hS.s.slice
  have HS := Lib.hid hS
  have hb0 := (Below.refl w.heap.size w).alloc (Nat.le_refl _) (.cells #[.slice va S.vols.length vc, .slice sa S.snaps.length sc] TRS)
  have hblk := heap_alloc_new w (.cells #[.slice va S.vols.length vc, .slice sa S.snaps.length sc] TRS)
  have HAT := Lib.hid (rat_any (.slice sa S.snaps.length sc) S.snaps id (w.alloc (.cells #[.slice va S.vols.length vc, .slice sa S.snaps.length sc] TRS)) (hS.s.below hb0))
  rcases atP_cases S.snaps id with ⟨hn, hi⟩ | ⟨p, hp, hi, hlt, hid⟩
  · have HM := Lib.hid (show imageM S id = ([], 12) by unfold imageM snapF; rw [← atN_find, hn])
    rw [hi] at HAT
    have HB := Lib.hid hb0
    clear hS hvc hvm hsc hsm hb0 hblk hn hi
    go_enter Tryz.func45, Tryz.ntmps45
    go_wp2_with (go_at_call 51; refine HAT.out.mono ?_; rintro e W2 ⟨rfl, h2⟩)
    go_ret2
    refine ⟨_, by rw [HM.out]; rfl, HB.out.trans (h2.mono HB.out.size), ?_⟩
    rw [HM.out]
    exact RowsAt.nil _
  · have HM := Lib.hid (show imageM S id = (items p.m, 0) by unfold imageM snapF; rw [← atN_find, hp])
    rw [hi] at HAT
    obtain ⟨g, pa, pc, rfl, hg, e0, e1, e2, e3, hrow⟩ := part_at hS.s hp
    have HE := Lib.hid (And.intro hg (And.intro e3 (And.intro hrow (And.intro hblk hb0))))
    generalize hk : atN S.snaps id = k at *
    have hneg : decide ((k : Int) < 0) = false := decide_eq_false (by omega)
    have hk63 : (k : Int) ≤ 1000 := by omega
    clear hS hvc hvm hsc hsm hb0 hblk hp hi hid hk e0 e1 e2 e3 hrow hg
    go_enter Tryz.func45, Tryz.ntmps45
    go_upto_region 4 with (go_at_call 51; refine HAT.out.mono ?_; rintro e W2 ⟨rfl, h2⟩)
    have hbk := (h2.block _ (Array.getElem?_eq_some_iff.1 HE.out.2.2.2.1).1).trans HE.out.2.2.2.1
    have c0 := cells_at hbk 0; have c1 := cells_at hbk 1
    have hbw := HE.out.2.2.2.2.trans (h2.mono HE.out.2.2.2.2.size)
    have e3 := (hbw.cell (p := ⟨g, k * 4 + 3, none⟩) HE.out.1).trans HE.out.2.1
    have HBW := Lib.hid hbw
    clear hbw hbk h2
    go_wp2
    go_ret2
    refine ⟨_, by rw [HM.out]; rfl, HBW.out, ?_⟩
    rw [HM.out]
    exact (HE.out.2.2.1.below HBW.out).rows

structure RvSt (w : World) (T : TypeId) (n : Nat) (enc : PartM → List Value) (B : Nat) (a b : Value) (L : List PartM) (v i : Value) (wr : World) : Prop where
  st : ∃ k : Nat, k ≤ L.length ∧ i = .int .i64 (k : Int) ∧ Same w wr ∧ Sat wr (ownAt T n v k ((L.take k).flatMap enc) * (pts B (.cells #[a, b] TRS (0, 0)) * old w))

set_option maxRecDepth 20000 in
set_option maxHeartbeats 4000000 in
theorem rvols_any {ok : Nat → Prop} (vv vs : Value) (S : SpaceM) (w : World) (hS : RefAt ok w vv vs S) (hl : S.vols.length ≤ 1000) :
    Calls Tryz.prog 38 #[.agg #[vv, vs]] w fun e w' => ∃ r, e = .returned r ∧ Hid (Below w.heap.size w w' ∧ RowsAt w' r S.vols.length (S.vols.flatMap viE)) := by
  obtain ⟨va, vc, rfl, hvc, hvm⟩ := hS.v.slice
  obtain ⟨sa, sc, rfl, hsc, hsm⟩ := hS.s.slice
  have HS := Lib.hid hS
  have h0 := (Sat.old w).alloc (.cells #[.slice va S.vols.length vc, .slice sa S.snaps.length sc] TRS)
  have hs0 := (Same.refl w).alloc (.cells #[.slice va S.vols.length vc, .slice sa S.snaps.length sc] TRS)
  have H0 := Lib.hid (And.intro hs0 h0)
  obtain ⟨ti, hti, hz0, hts, hz2⟩ := info_parts info_vi
  clear hS hvc hvm hsc hsm h0 hs0
  go_enter Tryz.func38, Tryz.ntmps38
  go_upto_region 3 with (fail)
  generalize w.alloc (.cells #[.slice va S.vols.length vc, .slice sa S.snaps.length sc] TRS) = W0 at H0 ⊢
  generalize hBB : w.heap.size = B at H0 ⊢
  go_wp2
  go_loopw [3, 4] (fun v i wr => RvSt w TVi 3 viE B (.slice va S.vols.length vc) (.slice sa S.snaps.length sc) S.vols v i wr) (fun _ i _ => S.vols.length - (intOf i).toNat)
  case atStart => exact ⟨⟨0, Nat.zero_le _, rfl, H0.out.1, ownAt_nil.2 H0.out.2⟩⟩
  case round =>
    obtain ⟨k, hk, rfl, hsm, hs⟩ := hrel.st
    clear hrel
    obtain ⟨ra, rc, rfl⟩ := ownAt_slice hs
    have hbw := hsm.below_of (hs.perm (star_assoc _ _ _).symm)
    have c0 := cells_at hs.right.block 0; have c1 := cells_at hs.right.block 1
    have H1 := Lib.hid (And.intro hsm hs)
    clear hsm hs
    by_cases hlt : k < S.vols.length
    · have hltd : decide ((k : Int) < (S.vols.length : Int)) = true := decide_eq_true (by omega)
      have hki : (k : Int) ≤ 1000 := by omega
      obtain ⟨p, hp⟩ : ∃ p, S.vols[k]? = some p := ⟨_, List.getElem?_eq_getElem hlt⟩
      obtain ⟨g, pa, pc, rfl, hg, e0, e1, e2, e3, _⟩ := part_at HS.out.v hp
      have e0 := (hbw.cell (p := ⟨g, k * 4, none⟩) hg).trans e0
      have e1 := (hbw.cell (p := ⟨g, k * 4 + 1, none⟩) hg).trans e1
      have e2 := (hbw.cell (p := ⟨g, k * 4 + 2, none⟩) hg).trans e2
      have e3 := (hbw.cell (p := ⟨g, k * 4 + 3, none⟩) hg).trans e3
      have HX := Lib.hid (And.intro hp (And.intro hg hbw))
      have hik : (items p.m).length = cnt p.m := items_len p.m
      have HIK := Lib.hid hik
      clear hp hik
      go_upto_region 5 with (fail)
      have hg2 := hg
      have H2 := H1
      clear c0 c1 e0 e1 e2 e3 H1 hbw hg2
      have hcl : ∀ W, Below w.heap.size w W → W.cell? ⟨g, k * 4, none⟩ = some (.int .i64 p.id) ∧ W.cell? ⟨g, k * 4 + 1, none⟩ = some (.int .i64 p.tenant) ∧ W.cell? ⟨g, k * 4 + 3, none⟩ = some (.slice pa (items p.m).length pc) := fun W hb => by
        obtain ⟨g', pa', pc', e, hg', x0, x1, x2, x3, _⟩ := part_at HS.out.v HX.out.1
        simp only [Option.some.injEq, Addr.mk.injEq, and_true] at e
        subst e
        have q0 := ‹w.cell? ⟨g, k * 4 + 3, none⟩ = some (.slice pa (items p.m).length pc)›
        exact ⟨(hb.cell (p := ⟨g, k * 4, none⟩) hg').trans x0, (hb.cell (p := ⟨g, k * 4 + 1, none⟩) hg').trans x1, (hb.cell (p := ⟨g, k * 4 + 3, none⟩) hg').trans q0⟩
      have HCL := Lib.hid hcl
      clear hcl
      have hb0 := (H2.out.1.drew).below_of ((H2.out.2.drew).perm (star_assoc _ _ _).symm)
      have hS0 : wr.drew.cell? ⟨B, 0, none⟩ = some (.slice (some ⟨g, 0, none⟩) S.vols.length vc) ∧ wr.drew.cell? ⟨g, k * 4, none⟩ = some (.int .i64 p.id) ∧ wr.drew.cell? ⟨g, k * 4 + 1, none⟩ = some (.int .i64 p.tenant) ∧ wr.drew.cell? ⟨g, k * 4 + 3, none⟩ = some (.slice pa (items p.m).length pc) := ⟨cells_at H2.out.2.drew.right.block 0, HCL.out _ hb0⟩
      refine reg_begin (fun w' => w'.cell? ⟨B, 0, none⟩ = some (.slice (some ⟨g, 0, none⟩) S.vols.length vc) ∧ w'.cell? ⟨g, k * 4, none⟩ = some (.int .i64 p.id) ∧ w'.cell? ⟨g, k * 4 + 1, none⟩ = some (.int .i64 p.tenant) ∧ w'.cell? ⟨g, k * 4 + 3, none⟩ = some (.slice pa (items p.m).length pc)) (by kernel_rfl) ?_
      (apply reg_take 0 rfl rfl (by decide +kernel) rfl); (rintro w' ⟨h1, h2, h3, h4⟩; go_simp; rfl); exact hS0; simp only [List.setIfInBounds_toArray, List.set_cons_succ, List.set_cons_zero]
      (apply reg_take 1 rfl rfl (by decide +kernel) rfl); (rintro w' ⟨h1, h2, h3, h4⟩; go_simp; rfl); exact hS0; simp only [List.setIfInBounds_toArray, List.set_cons_succ, List.set_cons_zero]
      (apply reg_take 2 rfl rfl (by decide +kernel) rfl); (rintro w' ⟨h1, h2, h3, h4⟩; go_simp; rfl); exact hS0; simp only [List.setIfInBounds_toArray, List.set_cons_succ, List.set_cons_zero]
      (apply reg_take 3 rfl rfl (by decide +kernel) rfl); (rintro w' ⟨h1, h2, h3, h4⟩; go_simp; rfl); exact hS0; simp only [List.setIfInBounds_toArray, List.set_cons_succ, List.set_cons_zero]
      (apply reg_take 4 rfl rfl (by decide +kernel) rfl); (rintro w' ⟨h1, h2, h3, h4⟩; go_simp; rfl); exact hS0; simp only [List.setIfInBounds_toArray, List.set_cons_succ, List.set_cons_zero]
      (apply reg_take 5 rfl rfl (by decide +kernel) rfl); (rintro w' ⟨h1, h2, h3, h4⟩; go_simp; rfl); exact hS0; simp only [List.setIfInBounds_toArray, List.set_cons_succ, List.set_cons_zero]
      (apply reg_take 6 rfl rfl (by decide +kernel) rfl); (rintro w' ⟨h1, h2, h3, h4⟩; go_simp; rfl); exact hS0; simp only [List.setIfInBounds_toArray, List.set_cons_succ, List.set_cons_zero]
      (apply reg_take 7 rfl rfl (by decide +kernel) rfl); (rintro w' ⟨h1, h2, h3, h4⟩; go_simp; rfl); exact hS0; simp only [List.setIfInBounds_toArray, List.set_cons_succ, List.set_cons_zero]
      (apply reg_take 8 rfl rfl (by decide +kernel) rfl); (rintro w' ⟨h1, h2, h3, h4⟩; go_simp; rfl); exact hS0; simp only [List.setIfInBounds_toArray, List.set_cons_succ, List.set_cons_zero]
      (apply reg_take 9 rfl rfl (by decide +kernel) rfl); (rintro w' ⟨h1, h2, h3, h4⟩; go_simp; rfl); exact hS0; simp only [List.setIfInBounds_toArray, List.set_cons_succ, List.set_cons_zero]
      (apply reg_take 10 rfl rfl (by decide +kernel) rfl); (rintro w' ⟨h1, h2, h3, h4⟩; go_simp; rfl); exact hS0; simp only [List.setIfInBounds_toArray, List.set_cons_succ, List.set_cons_zero]
      (apply reg_take 11 rfl rfl (by decide +kernel) rfl); (rintro w' ⟨h1, h2, h3, h4⟩; go_simp; rfl); exact hS0; simp only [List.setIfInBounds_toArray, List.set_cons_succ, List.set_cons_zero]
      (apply reg_take 12 rfl rfl (by decide +kernel) rfl); (rintro w' ⟨h1, h2, h3, h4⟩; go_simp; rfl); exact hS0; simp only [List.setIfInBounds_toArray, List.set_cons_succ, List.set_cons_zero]
      (apply reg_take 13 rfl rfl (by decide +kernel) rfl); (rintro w' ⟨h1, h2, h3, h4⟩; go_simp; rfl); exact hS0; simp only [List.setIfInBounds_toArray, List.set_cons_succ, List.set_cons_zero]
      (apply reg_take 14 rfl rfl (by decide +kernel) rfl); (rintro w' ⟨h1, h2, h3, h4⟩; go_simp; rfl); exact hS0; simp only [List.setIfInBounds_toArray, List.set_cons_succ, List.set_cons_zero]
      (apply reg_take 15 rfl rfl (by decide +kernel) rfl); (rintro w' ⟨h1, h2, h3, h4⟩; go_simp; rfl); exact hS0; simp only [List.setIfInBounds_toArray, List.set_cons_succ, List.set_cons_zero]
      (apply reg_take 16 rfl rfl (by decide +kernel) rfl); (rintro w' ⟨h1, h2, h3, h4⟩; go_simp; rfl); exact hS0; simp only [List.setIfInBounds_toArray, List.set_cons_succ, List.set_cons_zero]
      (apply reg_take 17 rfl rfl (by decide +kernel) rfl); (rintro w' ⟨h1, h2, h3, h4⟩; go_simp; rfl); exact hS0; simp only [List.setIfInBounds_toArray, List.set_cons_succ, List.set_cons_zero]
      (apply reg_take 18 rfl rfl (by decide +kernel) rfl); (rintro w' ⟨h1, h2, h3, h4⟩; go_simp; rfl); exact hS0; simp only [List.setIfInBounds_toArray, List.set_cons_succ, List.set_cons_zero]
      (apply reg_take 19 rfl rfl (by decide +kernel) rfl); (rintro w' ⟨h1, h2, h3, h4⟩; go_simp; rfl); exact hS0; simp only [List.setIfInBounds_toArray, List.set_cons_succ, List.set_cons_zero]
      (apply reg_take 20 rfl rfl (by decide +kernel) rfl); (rintro w' ⟨h1, h2, h3, h4⟩; go_simp; rfl); exact hS0; simp only [List.setIfInBounds_toArray, List.set_cons_succ, List.set_cons_zero]
      have hA4 := H2.out.2.drew.alloc (.cells #[.int .i64 p.id, .int .i64 p.tenant, .int .i64 ((items p.m).length : Int)] TVi)
      have hsm4 := H2.out.1.drew.alloc (.cells #[.int .i64 p.id, .int .i64 p.tenant, .int .i64 ((items p.m).length : Int)] TVi)
      have hb4 := hsm4.below_of (hA4.perm (show _ = (pts wr.drew.heap.size (.cells #[.int .i64 p.id, .int .i64 p.tenant, .int .i64 ((items p.m).length : Int)] TVi (0, 0)) * (ownAt TVi 3 (.slice ra k rc) k ((S.vols.take k).flatMap viE) * pts B (.cells #[.slice (some ⟨g, 0, none⟩) S.vols.length vc, .slice sa S.snaps.length sc] TRS (0, 0)))) * old w from by ac_rfl))
      have hS4 : (wr.drew.alloc (.cells #[.int .i64 p.id, .int .i64 p.tenant, .int .i64 ((items p.m).length : Int)] TVi)).cell? ⟨B, 0, none⟩ = some (.slice (some ⟨g, 0, none⟩) S.vols.length vc) ∧ (wr.drew.alloc (.cells #[.int .i64 p.id, .int .i64 p.tenant, .int .i64 ((items p.m).length : Int)] TVi)).cell? ⟨g, k * 4, none⟩ = some (.int .i64 p.id) ∧ (wr.drew.alloc (.cells #[.int .i64 p.id, .int .i64 p.tenant, .int .i64 ((items p.m).length : Int)] TVi)).cell? ⟨g, k * 4 + 1, none⟩ = some (.int .i64 p.tenant) ∧ (wr.drew.alloc (.cells #[.int .i64 p.id, .int .i64 p.tenant, .int .i64 ((items p.m).length : Int)] TVi)).cell? ⟨g, k * 4 + 3, none⟩ = some (.slice pa (items p.m).length pc) := ⟨cells_at hA4.right.right.block 0, HCL.out _ hb4⟩
      refine reg_run 21 (.slice (some ⟨wr.drew.heap.size, 0, none⟩) 1 1) (wr.drew.alloc (.cells #[.int .i64 p.id, .int .i64 p.tenant, .int .i64 ((items p.m).length : Int)] TVi)) rfl rfl (by decide +kernel) rfl (by go_simp) (hS4) ?_; simp only [List.setIfInBounds_toArray, List.set_cons_succ, List.set_cons_zero]
      have hA5 := hA4.perm (show _ = ownAt TVi 3 (.slice ra k rc) k ((S.vols.take k).flatMap viE) * (pts wr.drew.heap.size (.cells #[.int .i64 p.id, .int .i64 p.tenant, .int .i64 ((items p.m).length : Int)] TVi (0, 0)) * (pts B (.cells #[.slice (some ⟨g, 0, none⟩) S.vols.length vc, .slice sa S.snaps.length sc] TRS (0, 0)) * old w)) from by ac_rfl)
      obtain ⟨v', w5, hr, hsm5, hs5⟩ := run_append_ownAt (P := Tryz.prog) 65 65 TVi ti _ Tryz.underlying65 hti hz0 (by rw [hts]; rfl) (.slice ra k rc) k ((S.vols.take k).flatMap viE) (by rw [hts]; exact hA5) ⟨wr.drew.heap.size, 0, none⟩ 1 1 [.int .i64 p.id, .int .i64 p.tenant, .int .i64 ((items p.m).length : Int)] (by rw [hts]; rfl)
        (by intro j u hu; rw [Addr.add_mid, cells_at hA5.right.block, Nat.zero_add]; simpa using hu) (by simp [Value.oneCell']) (by unfold maxLen; omega) (by rw [hz2]; omega)
      rw [hts] at hs5
      have hb5 := (hsm4.trans hsm5).below_of (hs5.perm (show _ = (ownAt TVi 3 v' (k + 1) ((S.vols.take k).flatMap viE ++ [.int .i64 p.id, .int .i64 p.tenant, .int .i64 ((items p.m).length : Int)]) * (pts wr.drew.heap.size (.cells #[.int .i64 p.id, .int .i64 p.tenant, .int .i64 ((items p.m).length : Int)] TVi (0, 0)) * pts B (.cells #[.slice (some ⟨g, 0, none⟩) S.vols.length vc, .slice sa S.snaps.length sc] TRS (0, 0)))) * old w from by ac_rfl))
      have hS6 : w5.cell? ⟨B, 0, none⟩ = some (.slice (some ⟨g, 0, none⟩) S.vols.length vc) ∧ w5.cell? ⟨g, k * 4, none⟩ = some (.int .i64 p.id) ∧ w5.cell? ⟨g, k * 4 + 1, none⟩ = some (.int .i64 p.tenant) ∧ w5.cell? ⟨g, k * 4 + 3, none⟩ = some (.slice pa (items p.m).length pc) := ⟨cells_at hs5.right.right.block 0, HCL.out _ hb5⟩
      refine reg_run 22 (v') (w5) rfl rfl (by decide +kernel) rfl (exec_app27 rfl rfl rfl hr) (hS6) ?_; simp only [List.setIfInBounds_toArray, List.set_cons_succ, List.set_cons_zero]
      obtain ⟨ao', cp', rfl⟩ := ownAt_slice hs5
      (apply reg_take 23 rfl rfl (by decide +kernel) rfl); (rintro w' ⟨h1, h2, h3, h4⟩; go_simp; rfl); exact hS6; simp only [List.setIfInBounds_toArray, List.set_cons_succ, List.set_cons_zero]
      refine reg_done (by decide +kernel) ?_
      have H6 := Lib.hid (And.intro (hsm4.trans hsm5) hs5)
      clear hS0 hS4 hS6 hA4 hA5 hsm4 hb4 hb5 hsm5 hs5 hr hti hz0 hts hz2 hb0
      go_wp2
      refine ⟨⟨⟨k + 1, by omega, by rw [Int.natCast_add]; rfl, H6.out.1, ?_⟩⟩, by simp only [intOf]; omega⟩
      have htk : S.vols.take (k + 1) = S.vols.take k ++ [p] := by rw [List.take_add_one, HX.out.1]; rfl
      rw [htk, List.flatMap_append]
      have h9 := H6.out.2.perm (show _ = pts wr.drew.heap.size (.cells #[.int .i64 p.id, .int .i64 p.tenant, .int .i64 ((items p.m).length : Int)] TVi (0, 0)) * (ownAt TVi 3 (.slice ao' (k + 1) cp') (k + 1) ((S.vols.take k).flatMap viE ++ [.int .i64 p.id, .int .i64 p.tenant, .int .i64 ((items p.m).length : Int)]) * (pts B (.cells #[.slice (some ⟨g, 0, none⟩) S.vols.length vc, .slice sa S.snaps.length sc] TRS (0, 0)) * old w)) from by ac_rfl)
      have h10 := h9.right
      rw [HIK.out] at h10
      exact h10
    · have hke : k = S.vols.length := by omega
      have hltd : decide ((k : Int) < (S.vols.length : Int)) = false := decide_eq_false (by omega)
      clear hbw
      go_wp2
      go_ret
      subst hke
      rw [List.take_length] at H1
      exact ⟨_, rfl, H1.out.1.below_of (H1.out.2.perm (star_assoc _ _ _).symm), RowsAt.own H1.out.2 (by omega)⟩

set_option maxRecDepth 20000 in
set_option maxHeartbeats 4000000 in
theorem rall_any {ok : Nat → Prop} (vv vs : Value) (S : SpaceM) (w : World) (hS : RefAt ok w vv vs S) (hl : S.snaps.length ≤ 1000) :
    Calls Tryz.prog 40 #[.agg #[vv, vs]] w fun e w' => ∃ r, e = .returned r ∧ Hid (Below w.heap.size w w' ∧ RowsAt w' r S.snaps.length (S.snaps.flatMap siE)) := by
  obtain ⟨va, vc, rfl, hvc, hvm⟩ := hS.v.slice
  obtain ⟨sa, sc, rfl, hsc, hsm⟩ := hS.s.slice
  have HS := Lib.hid hS
  have h0 := (Sat.old w).alloc (.cells #[.slice va S.vols.length vc, .slice sa S.snaps.length sc] TRS)
  have hs0 := (Same.refl w).alloc (.cells #[.slice va S.vols.length vc, .slice sa S.snaps.length sc] TRS)
  have H0 := Lib.hid (And.intro hs0 h0)
  obtain ⟨ti, hti, hz0, hts, hz2⟩ := info_parts info_si
  clear hS hvc hvm hsc hsm h0 hs0
  go_enter Tryz.func40, Tryz.ntmps40
  go_upto_region 3 with (fail)
  generalize w.alloc (.cells #[.slice va S.vols.length vc, .slice sa S.snaps.length sc] TRS) = W0 at H0 ⊢
  generalize hBB : w.heap.size = B at H0 ⊢
  go_wp2
  go_loopw [3, 4] (fun v i wr => RvSt w TSi 4 siE B (.slice va S.vols.length vc) (.slice sa S.snaps.length sc) S.snaps v i wr) (fun _ i _ => S.snaps.length - (intOf i).toNat)
  case atStart => exact ⟨⟨0, Nat.zero_le _, rfl, H0.out.1, ownAt_nil.2 H0.out.2⟩⟩
  case round =>
    obtain ⟨k, hk, rfl, hsm, hs⟩ := hrel.st
    clear hrel
    obtain ⟨ra, rc, rfl⟩ := ownAt_slice hs
    have hbw := hsm.below_of (hs.perm (star_assoc _ _ _).symm)
    have c0 := cells_at hs.right.block 0; have c1 := cells_at hs.right.block 1
    have H1 := Lib.hid (And.intro hsm hs)
    clear hsm hs
    by_cases hlt : k < S.snaps.length
    · have hltd : decide ((k : Int) < (S.snaps.length : Int)) = true := decide_eq_true (by omega)
      have hki : (k : Int) ≤ 1000 := by omega
      obtain ⟨p, hp⟩ : ∃ p, S.snaps[k]? = some p := ⟨_, List.getElem?_eq_getElem hlt⟩
      obtain ⟨g, pa, pc, rfl, hg, e0, e1, e2, e3, _⟩ := part_at HS.out.s hp
      have e0 := (hbw.cell (p := ⟨g, k * 4, none⟩) hg).trans e0
      have e1 := (hbw.cell (p := ⟨g, k * 4 + 1, none⟩) hg).trans e1
      have e2 := (hbw.cell (p := ⟨g, k * 4 + 2, none⟩) hg).trans e2
      have e3 := (hbw.cell (p := ⟨g, k * 4 + 3, none⟩) hg).trans e3
      have HX := Lib.hid (And.intro hp (And.intro hg hbw))
      have hik : (items p.m).length = cnt p.m := items_len p.m
      have HIK := Lib.hid hik
      clear hp hik
      go_upto_region 6 with (fail)
      have hA := H1.out.2.allocKeep (.cells #[.int .i64 p.id, .int .i64 p.tenant, .int .i64 p.src, .slice pa (items p.m).length pc] TP)
      have hsA := H1.out.1.alloc (.cells #[.int .i64 p.id, .int .i64 p.tenant, .int .i64 p.src, .slice pa (items p.m).length pc] TP)
      have hPb := heap_alloc_new wr (.cells #[.int .i64 p.id, .int .i64 p.tenant, .int .i64 p.src, .slice pa (items p.m).length pc] TP)
      generalize wr.alloc (.cells #[.int .i64 p.id, .int .i64 p.tenant, .int .i64 p.src, .slice pa (items p.m).length pc] TP) = W2 at hA hsA hPb ⊢
      generalize wr.heap.size = P at hPb ⊢
      have p0 := cells_at hPb 0; have p1 := cells_at hPb 1; have p2 := cells_at hPb 2; have p3 := cells_at hPb 3
      have H2 := Lib.hid (And.intro hsA hA)
      clear c0 c1 e0 e1 e2 e3 H1 hbw hA hsA hPb
      go_wp2_with (at_builtin; refine wpList_append_ownAt rfl _ _ 67 TSi rfl ti _ Tryz.underlying67 hti hz0 hts hz2 rfl (H2.out.2.allocKeep _) ([.int .i64 p.id, .int .i64 p.src, .int .i64 p.tenant, .int .i64 ((items p.m).length : Int)]) rfl rfl rfl (news4 _ _ _ _ _ _) (by simp [Value.oneCell']) (by unfold maxLen; omega) (by omega) ?_; intro v2 w2 h2; obtain ⟨r2, k2, rfl⟩ := ownAt_slice h2.out.2)
      refine ⟨⟨⟨k + 1, by omega, by rw [Int.natCast_add]; rfl, (H2.out.1.alloc _).trans h2.out.1, ?_⟩⟩, by simp only [intOf]; omega⟩
      have htk : S.snaps.take (k + 1) = S.snaps.take k ++ [p] := by rw [List.take_add_one, HX.out.1]; rfl
      rw [htk, List.flatMap_append]
      have h10 := h2.out.2
      rw [HIK.out] at h10
      exact h10
    · have hke : k = S.snaps.length := by omega
      have hltd : decide ((k : Int) < (S.snaps.length : Int)) = false := decide_eq_false (by omega)
      clear hbw
      go_wp2
      go_ret
      subst hke
      rw [List.take_length] at H1
      exact ⟨_, rfl, H1.out.1.below_of (H1.out.2.perm (star_assoc _ _ _).symm), RowsAt.own H1.out.2 (by omega)⟩
end Go.Proofs.YtednjhlkhecihaaGreatDoor
