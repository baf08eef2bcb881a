/- solventref27.Space: Clone, Volumes, All, Content, Image. Printed by ue.py. -/
import Derived.Test.YtmgcgdkndkibgaaGreatUd
import Derived.Test.YtmgcgdkndkibgaaGreatWv
import Derived.Test.YtmgcgdkndkibgaaGreatWm
namespace Go.Proofs.YtmgcgdkndkibgaaGreat
open Go.RowKit Go.Vol Go.Sl

theorem create_err {S : SpaceM} {t : Int} (m : MapM) : (∃ ev, ev ≠ 0 ∧ S.create t Vol.empty = ⟨none, 0, ev⟩ ∧ S.create t m = ⟨none, 0, ev⟩) ∨
    (S.create t Vol.empty = ⟨some { S with vols := S.vols.insertIdx (free S.vols) ⟨free S.vols, t, 0, Vol.empty⟩ }, free S.vols, 0⟩ ∧ S.create t m = ⟨some { S with vols := S.vols.insertIdx (free S.vols) ⟨free S.vols, t, 0, m⟩ }, free S.vols, 0⟩ ∧ S.vols.length < 64) := by
  unfold SpaceM.create
  by_cases h1 : tenB t = false
  · rw [if_pos h1, if_pos h1]
    exact .inl ⟨1, by decide, rfl, rfl⟩
  · rw [if_neg h1, if_neg h1]
    by_cases h2 : 64 ≤ S.vols.length
    · rw [if_pos h2, if_pos h2]
      exact .inl ⟨2, by decide, rfl, rfl⟩
    · rw [if_neg h2, if_neg h2]
      exact .inr ⟨rfl, rfl, by omega⟩

set_option maxRecDepth 20000 in
set_option maxHeartbeats 4000000 in
theorem rclone_any {ok : Nat → Prop} (vv vs : Value) (S : SpaceM) (snap t : Int) (w : World) (hS : RefAt ok w vv vs S) (hwf : S.WF) :
    Calls Tryz.prog 67 #[.agg #[vv, vs], .int .i64 snap, .int .i64 t] w (RRes3 ok w (S.clone snap t)) := by
  obtain ⟨va, vc, rfl, hvc, hvm⟩ := hS.v.slice
  obtain ⟨sa, sc, rfl, hsc, hsm⟩ := hS.s.slice
  unfold maxLen at hvm hsm
  have HS := Lib.hid (And.intro hS hwf)
  have hvl := hwf.vlen
  have hsl := hwf.slen
  have H0 : Hid (Same w ((w.alloc (.cells #[.slice va S.vols.length vc, .slice sa S.snaps.length sc] TRS)).alloc (.cells #[.slice none 0 0, .slice none 0 0] TRS)) ∧ Sat ((w.alloc (.cells #[.slice va S.vols.length vc, .slice sa S.snaps.length sc] TRS)).alloc (.cells #[.slice none 0 0, .slice none 0 0] TRS)) (pts w.heap.size (.cells #[.slice va S.vols.length vc, .slice sa S.snaps.length sc] TRS (0, 0)) * (pts (w.heap.size + 1) (.cells #[.slice none 0 0, .slice none 0 0] TRS (0, 0)) * old w))) := boxes_new w _ _
  have HB := Lib.hid ((Below.refl w.heap.size w))
  clear hS hwf
  go_enter Tryz.func67, Tryz.ntmps67
  go_upto_region 1 with (fail)
  replace H1 := H0
  clear H0
  generalize ((w.alloc (.cells #[.slice va S.vols.length vc, .slice sa S.snaps.length sc] TRS)).alloc (.cells #[.slice none 0 0, .slice none 0 0] TRS)) = W1 at H1 ⊢
  generalize hBB : w.heap.size = B at H1 ⊢
  have c0 := cells_at H1.out.2.block 0; have c1 := cells_at H1.out.2.block 1; have d0 := cells_at H1.out.2.right.block 0; have d1 := cells_at H1.out.2.right.block 1; have f0 := thawed_at H1.out.2.block 0; have g0 := thawed_at H1.out.2.right.block 0; have g1 := thawed_at H1.out.2.right.block 1; have f1 := thawed_at H1.out.2.block 1

  have hb1 : Below w.heap.size w W1 := two_below H1.out.1 H1.out.2
  have HAS := Lib.hid (fun (W : World) (hb : Below w.heap.size w W) => rat_any (.slice sa S.snaps.length sc) S.snaps snap W (HS.out.1.s.below hb))
  have HB1 := Lib.hid hb1
  clear hb1
  rcases atP_cases S.snaps snap with ⟨hn, hi⟩ | ⟨p, hp, hi, hlt, hid⟩
  · have HR := Lib.hid (show S.clone snap t = ⟨none, 0, 12⟩ by unfold SpaceM.clone; rw [hn])
    rw [hi] at HAS
    clear hn hi
    go_upto_region 3 with (go_at_call 98; refine (HAS.out _ HB1.out).mono ?_; rintro e W2 ⟨rfl, h2⟩; replace HB1 := Lib.hid (HB1.out.trans (h2.mono HB1.out.size)); replace H1 := Lib.hid (And.intro (H1.out.1.trans (same_below h2)) (H1.out.2.keep h2.block)); clear c0 c1 d0 d1 f0 f1 g0 g1; have c0 := cells_at H1.out.2.block 0; have c1 := cells_at H1.out.2.block 1; have d0 := cells_at H1.out.2.right.block 0; have d1 := cells_at H1.out.2.right.block 1; have f0 := thawed_at H1.out.2.block 0; have g0 := thawed_at H1.out.2.right.block 0; have g1 := thawed_at H1.out.2.right.block 1; have f1 := thawed_at H1.out.2.block 1; clear h2)
    go_wp2
    have HF := box_res (.slice none 0 0) (.slice none 0 0) H1.out.1 H1.out.2
    refine bodyPost_ret (results_c3 rfl rfl rfl rfl HF.out.2.right.block) rfl ?_
    rw [HR.out]
    exact ⟨_, _, rfl, by subst hBB; exact two_below HF.out.1 HF.out.2, rfl, rfl⟩
  · rw [hi] at HAS
    have hcl : S.clone snap t = S.create t p.m := by unfold SpaceM.clone; rw [hp]
    obtain ⟨g, pa, pc, rfl, hg, e0, e1, e2, e3, hrow⟩ := part_at HS.out.1.s hp
    have HCR := Lib.hid (fun (W : World) (hb : Below w.heap.size w W) => rcreate_any (ok := fun b => ok b ∧ b < w.heap.size) (.slice va S.vols.length vc) (.slice (some ⟨g, 0, none⟩) S.snaps.length sc) S t W ⟨in_ref HS.out.1.v hb, in_ref HS.out.1.s hb⟩ HS.out.2)
    have HE := Lib.hid (And.intro hg e3)
    have HROW := Lib.hid hrow
    generalize hk : atN S.snaps snap = k at *
    have hneg : decide ((k : Int) < 0) = false := decide_eq_false (by omega)
    have hk63 : (k : Int) ≤ 256 := by omega
    generalize hpn : (items p.m).length = pn at HE
    clear hp hi hid hk e0 e1 e2 e3 hrow hg
    go_upto_region 4 with (go_at_call 98; refine (HAS.out _ HB1.out).mono ?_; rintro e W2 ⟨rfl, h2⟩; replace HB1 := Lib.hid (HB1.out.trans (h2.mono HB1.out.size)); replace H1 := Lib.hid (And.intro (H1.out.1.trans (same_below h2)) (H1.out.2.keep h2.block)); clear c0 c1 d0 d1 f0 f1 g0 g1; have c0 := cells_at H1.out.2.block 0; have c1 := cells_at H1.out.2.block 1; have d0 := cells_at H1.out.2.right.block 0; have d1 := cells_at H1.out.2.right.block 1; have f0 := thawed_at H1.out.2.block 0; have g0 := thawed_at H1.out.2.right.block 0; have g1 := thawed_at H1.out.2.right.block 1; have f1 := thawed_at H1.out.2.block 1; clear h2)
    have e3 := (HB1.out.cell (p := ⟨g, k * 4 + 3, none⟩) HE.out.1).trans HE.out.2
    rcases create_err (S := S) (t := t) p.m with ⟨ev, hev, h0, hm⟩ | ⟨h0, hm, hl64⟩
    · have HR := Lib.hid (show S.clone snap t = ⟨none, 0, ev⟩ by rw [hcl, hm])
      have hevd : (ev != 0) = true := by simpa using hev
      rw [h0] at HCR
      clear h0 hm hcl hev
      go_upto_region 6 with (go_at_call 60; refine (HCR.out _ HB1.out).mono ?_; rintro e W3 ⟨xv, xs, rfl, h3⟩; have HLT := Lib.hid H1.out.2.right.lt; have HLT9 := Lib.hid h3.out.1.size; replace H1 := Lib.hid (And.intro (H1.out.1.trans (same_below h3.out.1)) (H1.out.2.keep h3.out.1.block)); clear c0 c1 d0 d1 f0 f1 g0 g1; have c0 := cells_at H1.out.2.block 0; have c1 := cells_at H1.out.2.block 1; have d0 := cells_at H1.out.2.right.block 0; have d1 := cells_at H1.out.2.right.block 1; have f0 := thawed_at H1.out.2.block 0; have g0 := thawed_at H1.out.2.right.block 0; have g1 := thawed_at H1.out.2.right.block 1; have f1 := thawed_at H1.out.2.block 1; obtain ⟨rfl, rfl⟩ : xv = .slice none 0 0 ∧ xs = .slice none 0 0 := h3.out.2)
      clear h3 e3
      have hq := box_snd (.slice none 0 0) (box_fst (.slice none 0 0) H1.out.1 H1.out.2).out.1 (box_fst (.slice none 0 0) H1.out.1 H1.out.2).out.2
      have ho : ∀ k, k ≠ B → k ≠ B + 1 → ((W3.setCell ⟨B, 0, none⟩ (.slice none 0 0)).setCell ⟨B, 1, none⟩ (.slice none 0 0)).heap[k]? = W3.heap[k]? := fun k h1 _ => (heap_setCell_other _ _ _ _ h1).trans (heap_setCell_other _ _ _ _ h1)
      have hz : W3.heap.size ≤ ((W3.setCell ⟨B, 0, none⟩ (.slice none 0 0)).setCell ⟨B, 1, none⟩ (.slice none 0 0)).heap.size := by simp [World.setCell]
      generalize ((W3.setCell ⟨B, 0, none⟩ (.slice none 0 0)).setCell ⟨B, 1, none⟩ (.slice none 0 0)) = W4 at hq ho hz ⊢
      replace H1 := hq
      have HO4 := Lib.hid (And.intro ho hz)
      clear c0 c1 d0 d1 f0 f1 g0 g1; have c0 := cells_at H1.out.2.block 0; have c1 := cells_at H1.out.2.block 1; have d0 := cells_at H1.out.2.right.block 0; have d1 := cells_at H1.out.2.right.block 1; have f0 := thawed_at H1.out.2.block 0; have g0 := thawed_at H1.out.2.right.block 0; have g1 := thawed_at H1.out.2.right.block 1; have f1 := thawed_at H1.out.2.block 1
      clear hq ho hz
      go_upto_region 7 with (fail)
      go_wp2
      have HF := box_res (.slice none 0 0) (.slice none 0 0) H1.out.1 H1.out.2
      refine bodyPost_ret (results_c3 rfl rfl rfl rfl HF.out.2.right.block) rfl ?_
      rw [HR.out]
      exact ⟨_, _, rfl, by subst hBB; exact two_below HF.out.1 HF.out.2, rfl, rfl⟩
    · obtain ⟨L0, hL0⟩ : ∃ L0, L0 = S.vols.insertIdx (free S.vols) ⟨free S.vols, t, 0, Vol.empty⟩ := ⟨_, rfl⟩
      obtain ⟨LN, hLN⟩ : ∃ LN, LN = S.vols.insertIdx (free S.vols) ⟨free S.vols, t, 0, p.m⟩ := ⟨_, rfl⟩
      have HR := Lib.hid (show S.clone snap t = ⟨some { S with vols := LN }, free S.vols, 0⟩ by rw [hcl, hm, hLN])
      rw [h0, ← hL0] at HCR
      have hfl := free_le HS.out.2.vols
      have hat0 : atN L0 (free S.vols : Int) = free S.vols := by rw [hL0]; exact atN_new (q := ⟨free S.vols, t, 0, Vol.empty⟩) (free_new HS.out.2.vols) hfl
      have hl0 : L0.length = S.vols.length + 1 := by rw [hL0, List.length_insertIdx_of_le_length hfl]
      have hatp : atP L0 (free S.vols : Int) = (free S.vols : Int) := by unfold atP; rw [hat0, if_pos (by omega)]
      have hset : L0.set (free S.vols) ⟨free S.vols, t, 0, p.m⟩ = LN := by rw [hL0, hLN]; exact insert_set _ _ _ _ hfl
      have HX := Lib.hid (And.intro hatp (And.intro hset hl0))
      generalize free S.vols = fr at *
      have hnegf : decide ((fr : Int) < 0) = false := decide_eq_false (by omega)
      clear h0 hm hcl hL0 hLN hatp hset hat0 hl0
      go_upto_region 6 with (go_at_call 60; refine (HCR.out _ HB1.out).mono ?_; rintro e W3 ⟨xv, xs, rfl, h3⟩; have HLT := Lib.hid H1.out.2.right.lt; have HLT9 := Lib.hid h3.out.1.size; replace H1 := Lib.hid (And.intro (H1.out.1.trans (same_below h3.out.1)) (H1.out.2.keep h3.out.1.block)); clear c0 c1 d0 d1 f0 f1 g0 g1; have c0 := cells_at H1.out.2.block 0; have c1 := cells_at H1.out.2.block 1; have d0 := cells_at H1.out.2.right.block 0; have d1 := cells_at H1.out.2.right.block 1; have f0 := thawed_at H1.out.2.block 0; have g0 := thawed_at H1.out.2.right.block 0; have g1 := thawed_at H1.out.2.right.block 1; have f1 := thawed_at H1.out.2.block 1; obtain ⟨xa, xc, rfl, _⟩ := (show RefAt _ _ _ _ _ from h3.out.2).v.slice; obtain ⟨ya, yc, rfl, _⟩ := (show RefAt _ _ _ _ _ from h3.out.2).s.slice)
      have H3 := Lib.hid (show RefAt _ _ _ _ _ from h3.out.2)
      clear h3 e3
      try simp only at H3 ⊢
      have hq := box_snd (.slice ya S.snaps.length yc) (box_fst (.slice xa L0.length xc) H1.out.1 H1.out.2).out.1 (box_fst (.slice xa L0.length xc) H1.out.1 H1.out.2).out.2
      have ho : ∀ k, k ≠ B → k ≠ B + 1 → ((W3.setCell ⟨B, 0, none⟩ (.slice xa L0.length xc)).setCell ⟨B, 1, none⟩ (.slice ya S.snaps.length yc)).heap[k]? = W3.heap[k]? := fun k h1 _ => (heap_setCell_other _ _ _ _ h1).trans (heap_setCell_other _ _ _ _ h1)
      have hz : W3.heap.size ≤ ((W3.setCell ⟨B, 0, none⟩ (.slice xa L0.length xc)).setCell ⟨B, 1, none⟩ (.slice ya S.snaps.length yc)).heap.size := by simp [World.setCell]
      generalize ((W3.setCell ⟨B, 0, none⟩ (.slice xa L0.length xc)).setCell ⟨B, 1, none⟩ (.slice ya S.snaps.length yc)) = W4 at hq ho hz ⊢
      replace H1 := hq
      have HO4 := Lib.hid (And.intro ho hz)
      clear c0 c1 d0 d1 f0 f1 g0 g1; have c0 := cells_at H1.out.2.block 0; have c1 := cells_at H1.out.2.block 1; have d0 := cells_at H1.out.2.right.block 0; have d1 := cells_at H1.out.2.right.block 1; have f0 := thawed_at H1.out.2.block 0; have g0 := thawed_at H1.out.2.right.block 0; have g1 := thawed_at H1.out.2.right.block 1; have f1 := thawed_at H1.out.2.block 1
      clear hq ho hz
      have hne : ∀ b, newer (fun b => ok b ∧ b < w.heap.size) W2 b → b ≠ B ∧ b ≠ B + 1 := fun b hb => by
        have := HLT.out
        rcases hb with hb | hb
        · exact ⟨by omega, by omega⟩
        · exact ⟨by omega, by omega⟩
      have H4 := Lib.hid (H3.out.keep HO4.out.2 fun b hb _ => HO4.out.1 b (hne b hb).1 (hne b hb).2)
      have HB4 := Lib.hid (two_below H1.out.1 H1.out.2)
      clear HB1 hne
      have HAT := Lib.hid (rat_any _ L0 (fr : Int) W4 H4.out.v)
      rw [HX.out.1] at HAT
      go_upto_region 9 with (go_at_call 98; refine HAT.out.mono ?_; rintro e W5 ⟨rfl, h5⟩; replace H1 := Lib.hid (And.intro (H1.out.1.trans (same_below h5)) (H1.out.2.keep h5.block)); clear c0 c1 d0 d1 f0 f1 g0 g1; have c0 := cells_at H1.out.2.block 0; have c1 := cells_at H1.out.2.block 1; have d0 := cells_at H1.out.2.right.block 0; have d1 := cells_at H1.out.2.right.block 1; have f0 := thawed_at H1.out.2.block 0; have g0 := thawed_at H1.out.2.right.block 0; have g1 := thawed_at H1.out.2.right.block 1; have f1 := thawed_at H1.out.2.block 1)
      have hw := rwith_any _ L0 fr (fr : Int) t 0 p.m pa (items p.m).length pc W5 (H4.out.v.below h5) (by have := HX.out.2.2; omega) (by have := HX.out.2.2; omega) (((in_row HROW.out (HB4.out.trans (h5.mono HB4.out.size))).weaken fun _ h _ => .inl h))
      rw [HX.out.2.1, hpn] at hw
      have HWI := Lib.hid hw
      have HS5 := Lib.hid (H4.out.s.below h5)
      have HZ5 := Lib.hid h5.size
      clear hw
      go_upto_region 10 with (go_at_call 100; refine HWI.out.mono ?_; rintro e W7 ⟨v7, rfl, h7⟩; obtain ⟨a7, k7, rfl, _⟩ := h7.out.2.slice; have HCW := Lib.hid (And.intro h7.out.2 (HS5.out.below h7.out.1)); replace H1 := Lib.hid (And.intro (H1.out.1.trans (same_below h7.out.1)) (H1.out.2.keep h7.out.1.block)); clear c0 c1 d0 d1 f0 f1 g0 g1; have c0 := cells_at H1.out.2.block 0; have c1 := cells_at H1.out.2.block 1; have d0 := cells_at H1.out.2.right.block 0; have d1 := cells_at H1.out.2.right.block 1; have f0 := thawed_at H1.out.2.block 0; have g0 := thawed_at H1.out.2.right.block 0; have g1 := thawed_at H1.out.2.right.block 1; have f1 := thawed_at H1.out.2.block 1; clear h7)
      clear h5
      have HPR := Lib.hid (show ∀ b, newer (newer (fun b => ok b ∧ b < w.heap.size) W2) W5 b → b ≠ B ∧ b ≠ B + 1 ∧ newer ok w b from by
        intro b hb
        have h1 := HLT.out
        have h2 := HO4.out.2
        have h3 := HZ5.out
        have h4 := HLT9.out
        rcases hb with (hb | hb) | hb
        · exact ⟨by omega, by omega, .inl hb.1⟩
        · exact ⟨by omega, by omega, .inr (by omega)⟩
        · exact ⟨by omega, by omega, .inr (by omega)⟩)
      have hq := box_fst (.slice a7 LN.length k7) H1.out.1 H1.out.2
      have ho : ∀ k, k ≠ B → k ≠ B + 1 → (W7.setCell ⟨B, 0, none⟩ (.slice a7 LN.length k7)).heap[k]? = W7.heap[k]? := fun k h1 _ => heap_setCell_other _ _ _ _ h1
      have hz : W7.heap.size ≤ (W7.setCell ⟨B, 0, none⟩ (.slice a7 LN.length k7)).heap.size := by simp [World.setCell]
      generalize W7.setCell ⟨B, 0, none⟩ (.slice a7 LN.length k7) = W4 at hq ho hz ⊢
      replace H1 := hq
      have HO := Lib.hid (And.intro ho hz)
      clear c0 c1 d0 d1 f0 f1 g0 g1; have c0 := cells_at H1.out.2.block 0; have c1 := cells_at H1.out.2.block 1; have d0 := cells_at H1.out.2.right.block 0; have d1 := cells_at H1.out.2.right.block 1; have f0 := thawed_at H1.out.2.block 0; have g0 := thawed_at H1.out.2.right.block 0; have g1 := thawed_at H1.out.2.right.block 1; have f1 := thawed_at H1.out.2.block 1
      clear hq ho hz
      go_wp2
      have HF := box_res (.slice a7 LN.length k7) (.slice ya S.snaps.length yc) H1.out.1 H1.out.2
      have hbf := two_below HF.out.1 HF.out.2
      have hzf : W7.heap.size ≤ ((W4.setCell ⟨B + 1, 0, none⟩ (.slice a7 LN.length k7)).setCell ⟨B + 1, 1, none⟩ (.slice ya S.snaps.length yc)).heap.size := by have := HO.out.2; simpa [World.setCell] using this
      have hof : ∀ k, k ≠ B → k ≠ B + 1 → ((W4.setCell ⟨B + 1, 0, none⟩ (.slice a7 LN.length k7)).setCell ⟨B + 1, 1, none⟩ (.slice ya S.snaps.length yc)).heap[k]? = W7.heap[k]? := fun k h1 h2 => ((heap_setCell_other _ _ _ _ h2).trans (heap_setCell_other _ _ _ _ h2)).trans (HO.out.1 k h1 h2)
      try simp only [Exit.inBlock, Exit.then]
      refine bodyPost_ret (results_c3 rfl rfl rfl rfl HF.out.2.right.block) rfl ?_
      rw [HR.out]
      refine ⟨_, _, rfl, hbf, ?_, ?_⟩
      · exact finG HPR.out HCW.out.1 hzf hof
      · exact finG (fun b hb => HPR.out b (.inl hb)) HCW.out.2 hzf hof

structure RvSt (w : World) (T : TypeId) (n : Nat) (enc : PartM → List Value) (B : Nat) (a b : Value) (L : List PartM) (v i : Value) (wr : World) : Prop where
  st : ∃ k : Nat, k ≤ L.length ∧ i = .int .i64 (k : Int) ∧ Same w wr ∧ Sat wr (ownAt T n v k ((L.take k).flatMap enc) * (pts B (.cells #[a, b] TRS (0, 0)) * old w))

end Go.Proofs.YtmgcgdkndkibgaaGreat
