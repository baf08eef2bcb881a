/- VolumePlays: whatever is done in an empty space, all answers are those of the specification. Printed by em.py. -/
import Derived.Test.YtednjhlkhecihaaGreatDoorUm
import Derived.Test.YtednjhlkhecihaaGreatDoorWo
import Derived.Test.YtednjhlkhecihaaGreatDoorEg
import Derived.Test.YtednjhlkhecihaaGreatDoorEl
namespace Go.Proofs.YtednjhlkhecihaaGreatDoor
open Go.RowKit Go.Vol Go.Sl

set_option maxRecDepth 20000 in
set_option maxHeartbeats 8000000 in
theorem plays_law (sv : Value) (l : List VOp) (a b block chunk : Int) (w : World) (hscr : ScrV w sv l) (hT : TabW w) :
    Calls Tryz.prog 3 #[sv, .int .i64 a, .int .i64 b, .int .i64 block, .int .i64 chunk] w fun e w' => e = .returned (.bool true) ∧ Below w.heap.size w w' := by
  have hw0 : 0 < w.heap.size := by
    have := hT 0 (by decide)
    unfold World.cell? at this
    rcases Nat.eq_zero_or_pos w.heap.size with h | h
    · rw [Array.getElem?_eq_none (by simp only; omega)] at this; cases this
    · exact h
  have HTB := Lib.hid (fun (W : World) (hb : Below w.heap.size w W) => hT.keep (hb.block 0 hw0))
  clear hT hw0
  obtain ⟨ao, cap, rfl, hm, hc⟩ := hscr
  have HC := Lib.hid hc
  clear hc hm
  by_cases h1 : 60 < l.length
  · have h1d : decide ((60 : Int) < (l.length : Int)) = true := decide_eq_true (by omega)
    clear h1
    go_enter Tryz.func3, Tryz.ntmps3
    go_wp2_with (go_at_call 4; refine (sanity_any _).mono ?_; rintro e w10 ⟨rfl, h10⟩)
    go_ret
    exact ⟨rfl, h10⟩
  have h1d : decide ((60 : Int) < (l.length : Int)) = false := decide_eq_false (by omega)
  have hlen : l.length ≤ 60 := by omega
  have HN := Lib.hid (new_any w)
  clear h1
  go_enter Tryz.func3, Tryz.ntmps3
  go_upto_region 5 with (go_at_call 5; refine HN.out.mono ?_; rintro e w1 ⟨p0, rfl, h1⟩)
  clear h1d
  have hbR := (Below.refl w1.heap.size w1).alloc (Nat.le_refl _) (.cells #[.slice none 0 0, .slice none 0 0] TRS)
  have hR := heap_alloc_new w1 (.cells #[.slice none 0 0, .slice none 0 0] TRS)
  generalize w1.alloc (.cells #[.slice none 0 0, .slice none 0 0] TRS) = W0 at hbR hR ⊢
  have hwR : w.heap.size ≤ w1.heap.size := h1.out.1.size
  have hbR' := hbR
  generalize w1.heap.size = R at hbR' hR hwR ⊢
  have H0 := Lib.hid (show BuF w R p0 SpaceM.new (.slice none 0 0) (.slice none 0 0) W0 from ⟨h1.out.1.trans (hbR.mono h1.out.1.size), h1.out.2.below hbR, ⟨RefL.nil _ _, RefL.nil _ _⟩, hR⟩)
  have HWR := Lib.hid hwR
  clear hbR hR hbR' hwR h1 HN
  go_wp2
  go_loopw [11, 13] (fun s i wr => BuSt w R SpaceM.new l s i wr) (fun _ i _ => l.length - (intOf i).toNat)
  case atStart => exact ⟨⟨0, p0, _, _, Nat.zero_le _, rfl, rfl, H0.out⟩⟩
  case round =>
    clear H0
    obtain ⟨k, p, vv, vs, hk, rfl, rfl, HF⟩ := hrel.st
    clear hrel
    by_cases hlt : k < l.length
    · have hltd : decide ((k : Int) < (l.length : Int)) = true := decide_eq_true (by omega)
      have hki : (k : Int) ≤ 60 := by omega
      obtain ⟨o, ho⟩ : ∃ o, l[k]? = some o := ⟨_, List.getElem?_eq_getElem hlt⟩
      obtain ⟨g, off, rfl, hcell⟩ := HC.out (by rintro rfl; simp at hlt)
      have hcell0 : w.cell? ⟨g, off + k * 4 + 0, none⟩ = some (.int .i64 o.d) := hcell k o ho 0 _ rfl
      rw [Nat.add_zero] at hcell0
      have HCELL := Lib.hid (fun (W : World) (hb : Below w.heap.size w W) => (show W.cell? ⟨g, off + k * 4, none⟩ = some (.int .i64 o.d) ∧ W.cell? ⟨g, off + k * 4 + 1, none⟩ = some (.int .i64 o.a) ∧ W.cell? ⟨g, off + k * 4 + 2, none⟩ = some (.int .i64 o.b) ∧ W.cell? ⟨g, off + k * 4 + 3, none⟩ = some (.int .i64 o.c) from ⟨(hb.cell (World.block_lt_of_cell? _ _ hcell0)).trans hcell0, (hb.cell (World.block_lt_of_cell? _ _ (hcell k o ho 1 _ rfl))).trans (hcell k o ho 1 _ rfl), (hb.cell (World.block_lt_of_cell? _ _ (hcell k o ho 2 _ rfl))).trans (hcell k o ho 2 _ rfl), (hb.cell (World.block_lt_of_cell? _ _ (hcell k o ho 3 _ rfl))).trans (hcell k o ho 3 _ rfl)⟩))
      have HGL := Lib.hid (World.block_lt_of_cell? _ _ hcell0)
      obtain ⟨c0, c1, c2, c3⟩ := HCELL.out wr HF.out.bl
      have HWF := Lib.hid (runV_wf SpaceM.WF.new (l.take k))
      have HTK := Lib.hid (runV_take ho SpaceM.new)
      have HD := Lib.hid (do_any p _ o wr HF.out.sp HWF.out)
      generalize runV SpaceM.new (l.take k) = T at HF HWF HTK HD
      obtain ⟨od, oa, ob, oc⟩ := o
      simp only at c0 c1 c2 c3 HCELL
      clear hcell hcell0 ho
      go_upto_region 9 with (go_at_call 6; refine HD.out.mono ?_; rintro e w2 ⟨p', rfl, h2⟩)
      have HF2 := Lib.hid (HF.out.next h2.out.1)
      have HSP := Lib.hid h2.out.2
      have hRl : R < w2.heap.size := (Array.getElem?_eq_some_iff.1 HF2.out.bx).1
      clear c0 c1 c2 c3 h2 HD HF
      obtain ⟨a0, b0, a1, b1, rfl, rfl⟩ := rs_sl HF2.out.rf
      have hS0 : w2.drew.cell? ⟨g, off + k * 4, none⟩ = some (.int .i64 od) ∧ w2.drew.cell? ⟨g, off + k * 4 + 1, none⟩ = some (.int .i64 oa) ∧ w2.drew.cell? ⟨g, off + k * 4 + 2, none⟩ = some (.int .i64 ob) ∧ w2.drew.cell? ⟨g, off + k * 4 + 3, none⟩ = some (.int .i64 oc) ∧ w2.drew.cell? ⟨R, 0, none⟩ = some (.slice a0 T.vols.length b0) ∧ w2.drew.cell? ⟨R, 1, none⟩ = some (.slice a1 T.snaps.length b1) := by obtain ⟨z0, z1, z2, z3⟩ := HCELL.out _ HF2.out.bl; exact ⟨z0, z1, z2, z3, cells_at HF2.out.bx 0, cells_at HF2.out.bx 1⟩
      refine reg_begin (fun w' => w'.cell? ⟨g, off + k * 4, none⟩ = some (.int .i64 od) ∧ w'.cell? ⟨g, off + k * 4 + 1, none⟩ = some (.int .i64 oa) ∧ w'.cell? ⟨g, off + k * 4 + 2, none⟩ = some (.int .i64 ob) ∧ w'.cell? ⟨g, off + k * 4 + 3, none⟩ = some (.int .i64 oc) ∧ w'.cell? ⟨R, 0, none⟩ = some (.slice a0 T.vols.length b0) ∧ w'.cell? ⟨R, 1, none⟩ = some (.slice a1 T.snaps.length b1)) (by kernel_rfl) ?_
      (apply reg_take 0 rfl rfl (by decide +kernel) rfl); (rintro w' ⟨h1, h2, h3, h4, h5, h6⟩; go_simp; rfl); exact hS0; simp only [List.setIfInBounds_toArray, List.set_cons_succ, List.set_cons_zero]
      (apply reg_take 1 rfl rfl (by decide +kernel) rfl); (rintro w' ⟨h1, h2, h3, h4, h5, h6⟩; go_simp; rfl); exact hS0; simp only [List.setIfInBounds_toArray, List.set_cons_succ, List.set_cons_zero]
      (apply reg_take 2 rfl rfl (by decide +kernel) rfl); (rintro w' ⟨h1, h2, h3, h4, h5, h6⟩; go_simp; rfl); exact hS0; simp only [List.setIfInBounds_toArray, List.set_cons_succ, List.set_cons_zero]
      (apply reg_take 3 rfl rfl (by decide +kernel) rfl); (rintro w' ⟨h1, h2, h3, h4, h5, h6⟩; go_simp; rfl); exact hS0; simp only [List.setIfInBounds_toArray, List.set_cons_succ, List.set_cons_zero]
      (apply reg_take 4 rfl rfl (by decide +kernel) rfl); (rintro w' ⟨h1, h2, h3, h4, h5, h6⟩; go_simp; rfl); exact hS0; simp only [List.setIfInBounds_toArray, List.set_cons_succ, List.set_cons_zero]
      have hdr : Below w2.heap.size w2 w2.drew := (Below.refl _ _).drew
      refine reg_fork 5 10 (by decide +kernel) ?_ ?_
      · -- the specified operation first
        refine rstep_call rfl rfl (by decide +kernel) rfl (f := 7) (args := #[.agg #[.slice a0 T.vols.length b0, .slice a1 T.snaps.length b1], .agg #[.int .i64 od, .int .i64 oa, .int .i64 ob, .int .i64 oc]]) (R := fun v w' => ∃ xa xs, v = .tuple #[.agg #[xa, xs], .int .i64 (stepM T ⟨od, oa, ob, oc⟩).id, .int .i64 (stepM T ⟨od, oa, ob, oc⟩).e] ∧ Hid (Below w2.heap.size w2 w' ∧ RefAt (fun b => b ≠ R) w' xa xs (doM T ⟨od, oa, ob, oc⟩))) (by kernel_rfl)
          ((spec_any (ok := fun b => b ≠ R) (.slice a0 T.vols.length b0) (.slice a1 T.snaps.length b1) T ⟨od, oa, ob, oc⟩ w2.drew (HF2.out.rf.below hdr) HWF.out).mono fun e w' h => by
            obtain ⟨xa, xs, h1, h3⟩ := h
            exact ⟨_, h1, xa, xs, rfl, hdr.trans h3.out.1, h3.out.2.weaken fun b hb _ => by
              rcases hb with hb | hb
              · exact hb
              · exact fun e => by rw [e] at hb; exact absurd hRl (Nat.not_lt.2 hb)⟩) ?_
        rintro _ W3 ⟨xa, xs, rfl, h3⟩
        obtain ⟨ya, yb, yc, yd, rfl, rfl⟩ := rs_sl h3.out.2
        have HF3 := Lib.hid (HF2.out.next h3.out.1)
        have hS3 : W3.cell? ⟨g, off + k * 4, none⟩ = some (.int .i64 od) ∧ W3.cell? ⟨g, off + k * 4 + 1, none⟩ = some (.int .i64 oa) ∧ W3.cell? ⟨g, off + k * 4 + 2, none⟩ = some (.int .i64 ob) ∧ W3.cell? ⟨g, off + k * 4 + 3, none⟩ = some (.int .i64 oc) ∧ W3.cell? ⟨R, 0, none⟩ = some (.slice a0 T.vols.length b0) ∧ W3.cell? ⟨R, 1, none⟩ = some (.slice a1 T.snaps.length b1) := by obtain ⟨z0, z1, z2, z3⟩ := HCELL.out _ HF3.out.bl; exact ⟨z0, z1, z2, z3, cells_at HF3.out.bx 0, cells_at HF3.out.bx 1⟩
        refine ⟨hS3, ?_⟩
        simp only [List.setIfInBounds_toArray, List.set_cons_succ, List.set_cons_zero]
        (apply reg_take 6 rfl rfl (by decide +kernel) rfl); (rintro w' ⟨h1, h2, h3, h4, h5, h6⟩; go_simp; rfl); exact hS3; simp only [List.setIfInBounds_toArray, List.set_cons_succ, List.set_cons_zero]
        (apply reg_take 7 rfl rfl (by decide +kernel) rfl); (rintro w' ⟨h1, h2, h3, h4, h5, h6⟩; go_simp; rfl); exact hS3; simp only [List.setIfInBounds_toArray, List.set_cons_succ, List.set_cons_zero]
        (apply reg_take 8 rfl rfl (by decide +kernel) rfl); (rintro w' ⟨h1, h2, h3, h4, h5, h6⟩; go_simp; rfl); exact hS3; simp only [List.setIfInBounds_toArray, List.set_cons_succ, List.set_cons_zero]
        (apply reg_take 9 rfl rfl (by decide +kernel) rfl); (rintro w' ⟨h1, h2, h3, h4, h5, h6⟩; go_simp; rfl); exact hS3; simp only [List.setIfInBounds_toArray, List.set_cons_succ, List.set_cons_zero]
        have hb4 := (Below.refl W3.heap.size W3).alloc (Nat.le_refl _) (.cells #[.slice none 0 0, .slice none 0 0] TRS)
        have HF4 := Lib.hid (HF3.out.next hb4)
        have hS4 : (W3.alloc (.cells #[.slice none 0 0, .slice none 0 0] TRS)).cell? ⟨g, off + k * 4, none⟩ = some (.int .i64 od) ∧ (W3.alloc (.cells #[.slice none 0 0, .slice none 0 0] TRS)).cell? ⟨g, off + k * 4 + 1, none⟩ = some (.int .i64 oa) ∧ (W3.alloc (.cells #[.slice none 0 0, .slice none 0 0] TRS)).cell? ⟨g, off + k * 4 + 2, none⟩ = some (.int .i64 ob) ∧ (W3.alloc (.cells #[.slice none 0 0, .slice none 0 0] TRS)).cell? ⟨g, off + k * 4 + 3, none⟩ = some (.int .i64 oc) ∧ (W3.alloc (.cells #[.slice none 0 0, .slice none 0 0] TRS)).cell? ⟨R, 0, none⟩ = some (.slice a0 T.vols.length b0) ∧ (W3.alloc (.cells #[.slice none 0 0, .slice none 0 0] TRS)).cell? ⟨R, 1, none⟩ = some (.slice a1 T.snaps.length b1) := by obtain ⟨z0, z1, z2, z3⟩ := HCELL.out _ HF4.out.bl; exact ⟨z0, z1, z2, z3, cells_at HF4.out.bx 0, cells_at HF4.out.bx 1⟩
        refine reg_run 10 (.pointer (some ⟨W3.heap.size, 0, none⟩)) (W3.alloc (.cells #[.slice none 0 0, .slice none 0 0] TRS)) rfl rfl (by decide +kernel) rfl (by go_simp) (hS4) ?_; simp only [List.setIfInBounds_toArray, List.set_cons_succ, List.set_cons_zero]
        have hb5 := (Below.refl W3.heap.size W3).alloc (Nat.le_refl _) (.cells #[(.slice ya (doM T ⟨od, oa, ob, oc⟩).vols.length yb), (.slice yc (doM T ⟨od, oa, ob, oc⟩).snaps.length yd)] TRS)
        have HF5 := Lib.hid (HF3.out.next hb5)
        have hS5 : (W3.alloc (.cells #[(.slice ya (doM T ⟨od, oa, ob, oc⟩).vols.length yb), (.slice yc (doM T ⟨od, oa, ob, oc⟩).snaps.length yd)] TRS)).cell? ⟨g, off + k * 4, none⟩ = some (.int .i64 od) ∧ (W3.alloc (.cells #[(.slice ya (doM T ⟨od, oa, ob, oc⟩).vols.length yb), (.slice yc (doM T ⟨od, oa, ob, oc⟩).snaps.length yd)] TRS)).cell? ⟨g, off + k * 4 + 1, none⟩ = some (.int .i64 oa) ∧ (W3.alloc (.cells #[(.slice ya (doM T ⟨od, oa, ob, oc⟩).vols.length yb), (.slice yc (doM T ⟨od, oa, ob, oc⟩).snaps.length yd)] TRS)).cell? ⟨g, off + k * 4 + 2, none⟩ = some (.int .i64 ob) ∧ (W3.alloc (.cells #[(.slice ya (doM T ⟨od, oa, ob, oc⟩).vols.length yb), (.slice yc (doM T ⟨od, oa, ob, oc⟩).snaps.length yd)] TRS)).cell? ⟨g, off + k * 4 + 3, none⟩ = some (.int .i64 oc) ∧ (W3.alloc (.cells #[(.slice ya (doM T ⟨od, oa, ob, oc⟩).vols.length yb), (.slice yc (doM T ⟨od, oa, ob, oc⟩).snaps.length yd)] TRS)).cell? ⟨R, 0, none⟩ = some (.slice a0 T.vols.length b0) ∧ (W3.alloc (.cells #[(.slice ya (doM T ⟨od, oa, ob, oc⟩).vols.length yb), (.slice yc (doM T ⟨od, oa, ob, oc⟩).snaps.length yd)] TRS)).cell? ⟨R, 1, none⟩ = some (.slice a1 T.snaps.length b1) := by obtain ⟨z0, z1, z2, z3⟩ := HCELL.out _ HF5.out.bl; exact ⟨z0, z1, z2, z3, cells_at HF5.out.bx 0, cells_at HF5.out.bx 1⟩
        refine reg_do 11 (W3.alloc (.cells #[(.slice ya (doM T ⟨od, oa, ob, oc⟩).vols.length yb), (.slice yc (doM T ⟨od, oa, ob, oc⟩).snaps.length yd)] TRS)) rfl rfl (by decide +kernel) rfl (by go_simp) (hS5) ?_
        (apply reg_take 12 rfl rfl (by decide +kernel) rfl); (rintro w' ⟨h1, h2, h3, h4, h5, h6⟩; go_simp; rfl); exact hS5; simp only [List.setIfInBounds_toArray, List.set_cons_succ, List.set_cons_zero]
        (apply reg_take 13 rfl rfl (by decide +kernel) rfl); (rintro w' ⟨h1, h2, h3, h4, h5, h6⟩; go_simp; rfl); exact hS5; simp only [List.setIfInBounds_toArray, List.set_cons_succ, List.set_cons_zero]
        refine reg_done (by decide +kernel) ?_
        have HNB := Lib.hid (heap_alloc_new W3 (.cells #[(.slice ya (doM T ⟨od, oa, ob, oc⟩).vols.length yb), (.slice yc (doM T ⟨od, oa, ob, oc⟩).snaps.length yd)] TRS))
        have hsp5 := (HSP.out.below h3.out.1).below hb5
        have hrf5 := h3.out.2.below hb5
        clear hS0 hS3 hS4 hS5 hb4 hb5 h3 hdr hRl
        generalize W3.alloc (.cells #[(.slice ya (doM T ⟨od, oa, ob, oc⟩).vols.length yb), (.slice yc (doM T ⟨od, oa, ob, oc⟩).snaps.length yd)] TRS) = W5 at HNB hsp5 hrf5 HF5 ⊢
        generalize W3.heap.size = N at HNB ⊢
        have HE := Lib.hid (And.intro HF5.out (And.intro hsp5 hrf5))
        have nb := cells_at HNB.out 0; have nc := cells_at HNB.out 1
        have k0 := cells_at HE.out.1.bx 0; have k1 := cells_at HE.out.1.bx 1
        have f0 := thawed_at HE.out.1.bx 0; have f1 := thawed_at HE.out.1.bx 1
        go_upto_region 14 with (fail)
        have hfin := HE.out.1.put HWR.out HE.out.2.1 HE.out.2.2
        have HWD := Lib.hid (do_wf (o := ⟨od, oa, ob, oc⟩) HWF.out)
        clear nb nc k0 k1 f0 f1 HE HNB HF5 HSP
        generalize (W5.setCell ⟨R, 0, none⟩ _).setCell ⟨R, 1, none⟩ _ = W6 at hfin ⊢
        have HFI := Lib.hid hfin
        have r0 := cells_at HFI.out.bx 0; have r1 := cells_at HFI.out.bx 1
        clear hfin
        go_wp2_with (go_at_call 8; refine (same27_any p' _ _ _ _ HFI.out.sp HWD.out HFI.out.rf).mono ?_; rintro e w8 ⟨rfl, h8⟩)
        refine ⟨⟨⟨k + 1, p', _, _, by omega, by rw [Int.natCast_add]; rfl, rfl, by rw [HTK.out]; exact HFI.out.next h8⟩⟩, by simp only [intOf]; omega⟩
      · -- its box first
        have hb3 := (Below.refl w2.heap.size w2).alloc (Nat.le_refl _) (.cells #[.slice none 0 0, .slice none 0 0] TRS)
        have hbd : Below w2.heap.size w2 (w2.drew.alloc (.cells #[.slice none 0 0, .slice none 0 0] TRS)) := hdr.alloc hdr.size _
        have HF3 := Lib.hid (HF2.out.next hbd)
        have hS3 : (w2.drew.alloc (.cells #[.slice none 0 0, .slice none 0 0] TRS)).cell? ⟨g, off + k * 4, none⟩ = some (.int .i64 od) ∧ (w2.drew.alloc (.cells #[.slice none 0 0, .slice none 0 0] TRS)).cell? ⟨g, off + k * 4 + 1, none⟩ = some (.int .i64 oa) ∧ (w2.drew.alloc (.cells #[.slice none 0 0, .slice none 0 0] TRS)).cell? ⟨g, off + k * 4 + 2, none⟩ = some (.int .i64 ob) ∧ (w2.drew.alloc (.cells #[.slice none 0 0, .slice none 0 0] TRS)).cell? ⟨g, off + k * 4 + 3, none⟩ = some (.int .i64 oc) ∧ (w2.drew.alloc (.cells #[.slice none 0 0, .slice none 0 0] TRS)).cell? ⟨R, 0, none⟩ = some (.slice a0 T.vols.length b0) ∧ (w2.drew.alloc (.cells #[.slice none 0 0, .slice none 0 0] TRS)).cell? ⟨R, 1, none⟩ = some (.slice a1 T.snaps.length b1) := by obtain ⟨z0, z1, z2, z3⟩ := HCELL.out _ HF3.out.bl; exact ⟨z0, z1, z2, z3, cells_at HF3.out.bx 0, cells_at HF3.out.bx 1⟩
        refine rstep_run (.pointer (some ⟨w2.drew.heap.size, 0, none⟩)) (w2.drew.alloc (.cells #[.slice none 0 0, .slice none 0 0] TRS)) rfl rfl (by decide +kernel) rfl (by go_simp) hS3 ?_
        simp only [List.setIfInBounds_toArray, List.set_cons_succ, List.set_cons_zero]
        have hnb := heap_alloc_new w2.drew (.cells #[.slice none 0 0, .slice none 0 0] TRS)
        have hrf3 : RefAt (fun b => b ≠ R ∧ b ≠ w2.drew.heap.size) (w2.drew.alloc (.cells #[.slice none 0 0, .slice none 0 0] TRS)) (.slice a0 T.vols.length b0) (.slice a1 T.snaps.length b1) T := (HF2.out.rf.weaken (ok' := fun b => b ≠ R ∧ b ≠ w2.drew.heap.size) fun b h1 h2 => ⟨h1, Nat.ne_of_lt h2⟩).below hbd
        have hsp3 := HSP.out.below hbd
        generalize w2.drew.alloc (.cells #[.slice none 0 0, .slice none 0 0] TRS) = W3 at hnb hrf3 hsp3 HF3 hS3 ⊢
        have HNRR := Lib.hid (show w2.drew.heap.size ≠ R from fun e => by rw [← e] at hRl; exact absurd hRl (Nat.lt_irrefl _))
        have HNW := Lib.hid (show w.heap.size ≤ w2.drew.heap.size from HF2.out.bl.size)
        generalize w2.drew.heap.size = N at hnb hrf3 HNRR HNW ⊢
        have HRF3 := Lib.hid hrf3
        have hNl : N < W3.heap.size := (Array.getElem?_eq_some_iff.1 hnb).1
        have hRl3 : R < W3.heap.size := (Array.getElem?_eq_some_iff.1 HF3.out.bx).1
        refine reg_call 5 rfl rfl (by decide +kernel) rfl (f := 7) (args := #[.agg #[.slice a0 T.vols.length b0, .slice a1 T.snaps.length b1], .agg #[.int .i64 od, .int .i64 oa, .int .i64 ob, .int .i64 oc]]) (R := fun v w' => ∃ xa xs, v = .tuple #[.agg #[xa, xs], .int .i64 (stepM T ⟨od, oa, ob, oc⟩).id, .int .i64 (stepM T ⟨od, oa, ob, oc⟩).e] ∧ Hid (Below W3.heap.size W3 w' ∧ RefAt (fun b => b ≠ R ∧ b ≠ N) w' xa xs (doM T ⟨od, oa, ob, oc⟩))) (by kernel_rfl)
          ((spec_any (ok := fun b => b ≠ R ∧ b ≠ N) (.slice a0 T.vols.length b0) (.slice a1 T.snaps.length b1) T ⟨od, oa, ob, oc⟩ W3 hrf3 HWF.out).mono fun e w' h => by
            obtain ⟨xa, xs, h1, h3⟩ := h
            exact ⟨_, h1, xa, xs, rfl, h3.out.1, h3.out.2.weaken fun b hb _ => by
              rcases hb with hb | hb
              · exact hb
              · exact ⟨fun e => by rw [e] at hb; exact absurd hRl3 (Nat.not_lt.2 hb), fun e => by rw [e] at hb; exact absurd hNl (Nat.not_lt.2 hb)⟩⟩) ?_
        rintro _ W4 ⟨xa, xs, rfl, h3⟩
        obtain ⟨ya, yb, yc, yd, rfl, rfl⟩ := rs_sl h3.out.2
        have HF4 := Lib.hid (HF3.out.next h3.out.1)
        have hS4 : W4.cell? ⟨g, off + k * 4, none⟩ = some (.int .i64 od) ∧ W4.cell? ⟨g, off + k * 4 + 1, none⟩ = some (.int .i64 oa) ∧ W4.cell? ⟨g, off + k * 4 + 2, none⟩ = some (.int .i64 ob) ∧ W4.cell? ⟨g, off + k * 4 + 3, none⟩ = some (.int .i64 oc) ∧ W4.cell? ⟨R, 0, none⟩ = some (.slice a0 T.vols.length b0) ∧ W4.cell? ⟨R, 1, none⟩ = some (.slice a1 T.snaps.length b1) := by obtain ⟨z0, z1, z2, z3⟩ := HCELL.out _ HF4.out.bl; exact ⟨z0, z1, z2, z3, cells_at HF4.out.bx 0, cells_at HF4.out.bx 1⟩
        refine ⟨hS4, ?_⟩
        simp only [List.setIfInBounds_toArray, List.set_cons_succ, List.set_cons_zero]
        (apply reg_take 6 rfl rfl (by decide +kernel) rfl); (rintro w' ⟨h1, h2, h3, h4, h5, h6⟩; go_simp; rfl); exact hS4; simp only [List.setIfInBounds_toArray, List.set_cons_succ, List.set_cons_zero]
        (apply reg_take 7 rfl rfl (by decide +kernel) rfl); (rintro w' ⟨h1, h2, h3, h4, h5, h6⟩; go_simp; rfl); exact hS4; simp only [List.setIfInBounds_toArray, List.set_cons_succ, List.set_cons_zero]
        (apply reg_take 8 rfl rfl (by decide +kernel) rfl); (rintro w' ⟨h1, h2, h3, h4, h5, h6⟩; go_simp; rfl); exact hS4; simp only [List.setIfInBounds_toArray, List.set_cons_succ, List.set_cons_zero]
        (apply reg_take 9 rfl rfl (by decide +kernel) rfl); (rintro w' ⟨h1, h2, h3, h4, h5, h6⟩; go_simp; rfl); exact hS4; simp only [List.setIfInBounds_toArray, List.set_cons_succ, List.set_cons_zero]
        have hnb4 := (h3.out.1.block N hNl).trans hnb
        have k0 := cells_at hnb4 0; have k1 := cells_at hnb4 1
        have f0 := thawed_at hnb4 0; have f1 := thawed_at hnb4 1
        have hko : ∀ k', k' ≠ N → ((W4.setCell ⟨N, 0, none⟩ (.slice ya (doM T ⟨od, oa, ob, oc⟩).vols.length yb)).setCell ⟨N, 1, none⟩ (.slice yc (doM T ⟨od, oa, ob, oc⟩).snaps.length yd)).heap[k']? = W4.heap[k']? := fun k' h => (heap_setCell_other _ _ _ _ h).trans (heap_setCell_other _ _ _ _ h)
        have hNR : N ≠ R := fun e => by
          have h9 := HF4.out.bx
          rw [← e, hnb4] at h9
          have h8 := HNRR.out
          exact h8 e
        have hwN : w.heap.size ≤ N := HNW.out
        have HF5 := Lib.hid (show BuF w R p T (.slice a0 T.vols.length b0) (.slice a1 T.snaps.length b1) ((W4.setCell ⟨N, 0, none⟩ (.slice ya (doM T ⟨od, oa, ob, oc⟩).vols.length yb)).setCell ⟨N, 1, none⟩ (.slice yc (doM T ⟨od, oa, ob, oc⟩).snaps.length yd)) from
          ⟨(HF4.out.bl.setCell (p := ⟨N, 0, none⟩) hwN _).setCell (p := ⟨N, 1, none⟩) hwN _, space_noBox HF4.out.sp hnb4 (by simp [World.setCell]) fun k' h1 _ => hko k' h1,
           (((HRF3.out.below h3.out.1).keep (by simp [World.setCell]) fun b hb _ => hko b hb.2).weaken fun b hb _ => hb.1), (hko R hNR.symm).trans HF4.out.bx⟩)
        have hS5 : ((W4.setCell ⟨N, 0, none⟩ (.slice ya (doM T ⟨od, oa, ob, oc⟩).vols.length yb)).setCell ⟨N, 1, none⟩ (.slice yc (doM T ⟨od, oa, ob, oc⟩).snaps.length yd)).cell? ⟨g, off + k * 4, none⟩ = some (.int .i64 od) ∧ ((W4.setCell ⟨N, 0, none⟩ (.slice ya (doM T ⟨od, oa, ob, oc⟩).vols.length yb)).setCell ⟨N, 1, none⟩ (.slice yc (doM T ⟨od, oa, ob, oc⟩).snaps.length yd)).cell? ⟨g, off + k * 4 + 1, none⟩ = some (.int .i64 oa) ∧ ((W4.setCell ⟨N, 0, none⟩ (.slice ya (doM T ⟨od, oa, ob, oc⟩).vols.length yb)).setCell ⟨N, 1, none⟩ (.slice yc (doM T ⟨od, oa, ob, oc⟩).snaps.length yd)).cell? ⟨g, off + k * 4 + 2, none⟩ = some (.int .i64 ob) ∧ ((W4.setCell ⟨N, 0, none⟩ (.slice ya (doM T ⟨od, oa, ob, oc⟩).vols.length yb)).setCell ⟨N, 1, none⟩ (.slice yc (doM T ⟨od, oa, ob, oc⟩).snaps.length yd)).cell? ⟨g, off + k * 4 + 3, none⟩ = some (.int .i64 oc) ∧ ((W4.setCell ⟨N, 0, none⟩ (.slice ya (doM T ⟨od, oa, ob, oc⟩).vols.length yb)).setCell ⟨N, 1, none⟩ (.slice yc (doM T ⟨od, oa, ob, oc⟩).snaps.length yd)).cell? ⟨R, 0, none⟩ = some (.slice a0 T.vols.length b0) ∧ ((W4.setCell ⟨N, 0, none⟩ (.slice ya (doM T ⟨od, oa, ob, oc⟩).vols.length yb)).setCell ⟨N, 1, none⟩ (.slice yc (doM T ⟨od, oa, ob, oc⟩).snaps.length yd)).cell? ⟨R, 1, none⟩ = some (.slice a1 T.snaps.length b1) := by obtain ⟨z0, z1, z2, z3⟩ := HCELL.out _ HF5.out.bl; exact ⟨z0, z1, z2, z3, cells_at HF5.out.bx 0, cells_at HF5.out.bx 1⟩
        refine reg_do 11 ((W4.setCell ⟨N, 0, none⟩ (.slice ya (doM T ⟨od, oa, ob, oc⟩).vols.length yb)).setCell ⟨N, 1, none⟩ (.slice yc (doM T ⟨od, oa, ob, oc⟩).snaps.length yd)) rfl rfl (by decide +kernel) rfl (by go_simp) (hS5) ?_
        (apply reg_take 12 rfl rfl (by decide +kernel) rfl); (rintro w' ⟨h1, h2, h3, h4, h5, h6⟩; go_simp; rfl); exact hS5; simp only [List.setIfInBounds_toArray, List.set_cons_succ, List.set_cons_zero]
        (apply reg_take 13 rfl rfl (by decide +kernel) rfl); (rintro w' ⟨h1, h2, h3, h4, h5, h6⟩; go_simp; rfl); exact hS5; simp only [List.setIfInBounds_toArray, List.set_cons_succ, List.set_cons_zero]
        refine reg_done (by decide +kernel) ?_
        have HNB := Lib.hid (show ((W4.setCell ⟨N, 0, none⟩ (.slice ya (doM T ⟨od, oa, ob, oc⟩).vols.length yb)).setCell ⟨N, 1, none⟩ (.slice yc (doM T ⟨od, oa, ob, oc⟩).snaps.length yd)).heap[N]? = some (.cells #[(.slice ya (doM T ⟨od, oa, ob, oc⟩).vols.length yb), (.slice yc (doM T ⟨od, oa, ob, oc⟩).snaps.length yd)] TRS (0, 0)) from (((sat_block hnb4).setCell (i := 0) (.slice ya (doM T ⟨od, oa, ob, oc⟩).vols.length yb)).setCell (i := 1) (.slice yc (doM T ⟨od, oa, ob, oc⟩).snaps.length yd)).block)
        have hsp5 := space_noBox (w' := (W4.setCell ⟨N, 0, none⟩ (.slice ya (doM T ⟨od, oa, ob, oc⟩).vols.length yb)).setCell ⟨N, 1, none⟩ (.slice yc (doM T ⟨od, oa, ob, oc⟩).snaps.length yd)) (hsp3.below h3.out.1) hnb4 (by simp [World.setCell]) fun k' h1 _ => hko k' h1
        have hrf5 : RefAt (fun b => b ≠ R) ((W4.setCell ⟨N, 0, none⟩ (.slice ya (doM T ⟨od, oa, ob, oc⟩).vols.length yb)).setCell ⟨N, 1, none⟩ (.slice yc (doM T ⟨od, oa, ob, oc⟩).snaps.length yd)) (.slice ya (doM T ⟨od, oa, ob, oc⟩).vols.length yb) (.slice yc (doM T ⟨od, oa, ob, oc⟩).snaps.length yd) (doM T ⟨od, oa, ob, oc⟩) := ((h3.out.2.keep (by simp [World.setCell]) fun b hb _ => hko b hb.2).weaken fun b hb _ => hb.1)
        clear hS0 hS3 hS4 hS5 h3 hdr hRl hnb hnb4 k0 k1 f0 f1 hko hNR hwN hNl hRl3 hsp3 hrf3 hb3 hbd
        generalize (W4.setCell ⟨N, 0, none⟩ (.slice ya (doM T ⟨od, oa, ob, oc⟩).vols.length yb)).setCell ⟨N, 1, none⟩ (.slice yc (doM T ⟨od, oa, ob, oc⟩).snaps.length yd) = W5 at HNB hsp5 hrf5 HF5 ⊢
        have HE := Lib.hid (And.intro HF5.out (And.intro hsp5 hrf5))
        have nb := cells_at HNB.out 0; have nc := cells_at HNB.out 1
        have k0 := cells_at HE.out.1.bx 0; have k1 := cells_at HE.out.1.bx 1
        have f0 := thawed_at HE.out.1.bx 0; have f1 := thawed_at HE.out.1.bx 1
        go_upto_region 14 with (fail)
        have hfin := HE.out.1.put HWR.out HE.out.2.1 HE.out.2.2
        have HWD := Lib.hid (do_wf (o := ⟨od, oa, ob, oc⟩) HWF.out)
        clear nb nc k0 k1 f0 f1 HE HNB HF5 HSP
        generalize (W5.setCell ⟨R, 0, none⟩ _).setCell ⟨R, 1, none⟩ _ = W6 at hfin ⊢
        have HFI := Lib.hid hfin
        have r0 := cells_at HFI.out.bx 0; have r1 := cells_at HFI.out.bx 1
        clear hfin
        go_wp2_with (go_at_call 8; refine (same27_any p' _ _ _ _ HFI.out.sp HWD.out HFI.out.rf).mono ?_; rintro e w8 ⟨rfl, h8⟩)
        refine ⟨⟨⟨k + 1, p', _, _, by omega, by rw [Int.natCast_add]; rfl, rfl, by rw [HTK.out]; exact HFI.out.next h8⟩⟩, by simp only [intOf]; omega⟩
    · obtain rfl : k = l.length := by omega
      have hltd : decide ((l.length : Int) < (l.length : Int)) = false := decide_eq_false (by omega)
      rw [List.take_length] at HF
      have HWF := Lib.hid (runV_wf SpaceM.WF.new l)
      generalize runV SpaceM.new l = S at HF HWF
      have hvl := HWF.out.vlen
      have hsl := HWF.out.slen
      obtain ⟨a0, b0, a1, b1, rfl, rfl⟩ := rs_sl HF.out.rf
      have r0 := cells_at HF.out.bx 0; have r1 := cells_at HF.out.bx 1
      clear HC hlt hk
      go_upto_region 18 with (go_at_call 9; refine (getS_any p S a block _ HF.out.sp).mono ?_; rintro e w2 ⟨rfl, h2⟩; replace HF := Lib.hid (HF.out.next h2); clear h2 r0 r1; have r0 := cells_at HF.out.bx 0; have r1 := cells_at HF.out.bx 1)
      go_upto_region 19 with (go_at_call 10; refine (rGet_any _ _ S a block _ HF.out.rf (by omega)).mono ?_; rintro e w3 ⟨rfl, h2⟩; replace HF := Lib.hid (HF.out.next h2); clear h2 r0 r1; have r0 := cells_at HF.out.bx 0; have r1 := cells_at HF.out.bx 1)
      go_upto_region 20 with (go_at_call 11; refine (lookS_any p S b block _ HF.out.sp).mono ?_; rintro e w4 ⟨rfl, h2⟩; replace HF := Lib.hid (HF.out.next h2); clear h2 r0 r1; have r0 := cells_at HF.out.bx 0; have r1 := cells_at HF.out.bx 1)
      go_upto_region 21 with (go_at_call 12; refine (rLook_any _ _ S b block _ HF.out.rf (by omega)).mono ?_; rintro e w5 ⟨rfl, h2⟩; replace HF := Lib.hid (HF.out.next h2); clear h2 r0 r1; have r0 := cells_at HF.out.bx 0; have r1 := cells_at HF.out.bx 1)
      go_upto_region 22 with (go_at_call 13; refine (diffS_any p S a b _ HF.out.sp (HTB.out _ HF.out.bl)).mono ?_; rintro e w6 ⟨d1, rfl, h9⟩; have h2 := h9.out.1; have HD1 := Lib.hid h9.out.2; clear h9; replace HF := Lib.hid (HF.out.next h2); clear h2 r0 r1; have r0 := cells_at HF.out.bx 0; have r1 := cells_at HF.out.bx 1)
      go_upto_region 23 with (go_at_call 14; refine (rdiff_any _ _ S a b _ HF.out.rf (by omega)).mono ?_; rintro e w7 ⟨d2, rfl, h9⟩; have h2 := h9.out.1; replace HD1 := Lib.hid (And.intro (HD1.out.below h9.out.1) h9.out.2); clear h9; replace HF := Lib.hid (HF.out.next h2); clear h2 r0 r1; have r0 := cells_at HF.out.bx 0; have r1 := cells_at HF.out.bx 1)
      have HRF := Lib.hid HF.out
      have hS0 : w7.drew.cell? ⟨R, 0, none⟩ = some (.slice a0 S.vols.length b0) ∧ w7.drew.cell? ⟨R, 1, none⟩ = some (.slice a1 S.snaps.length b1) := ⟨r0, r1⟩
      have hdr : Below w7.heap.size w7 w7.drew := (Below.refl _ _).drew
      replace HD1 := Lib.hid (And.intro (HD1.out.1.below hdr) (HD1.out.2.below hdr))
      replace HF := Lib.hid (HF.out.next hdr)
      refine reg_begin (fun w' => w'.cell? ⟨R, 0, none⟩ = some (.slice a0 S.vols.length b0) ∧ w'.cell? ⟨R, 1, none⟩ = some (.slice a1 S.snaps.length b1)) (by kernel_rfl) ?_
      clear r0 r1 hdr HRF
      generalize w7.drew = w8 at HD1 HF hS0 ⊢
      refine reg_call 0 rfl rfl (by decide +kernel) rfl (f := 4) (args := #[]) (R := fun v w' => v = .bool true ∧ Below w8.heap.size w8 w') (by kernel_rfl) ((sanity_any w8).mono fun e w' h => ⟨_, h.1, rfl, h.2⟩) ?_
      rintro _ w9 ⟨rfl, h2⟩
      replace HD1 := Lib.hid (And.intro (HD1.out.1.below h2) (HD1.out.2.below h2))
      replace HF := Lib.hid (HF.out.next h2)
      clear h2 hS0
      have hS0 : w9.cell? ⟨R, 0, none⟩ = some (.slice a0 S.vols.length b0) ∧ w9.cell? ⟨R, 1, none⟩ = some (.slice a1 S.snaps.length b1) := ⟨cells_at HF.out.bx 0, cells_at HF.out.bx 1⟩
      refine ⟨hS0, ?_⟩
      simp only [List.setIfInBounds_toArray, List.set_cons_succ, List.set_cons_zero]
      (apply reg_take 1 rfl rfl (by decide +kernel) rfl); (rintro w' ⟨h1, h2⟩; go_simp; rfl); exact hS0; simp only [List.setIfInBounds_toArray, List.set_cons_succ, List.set_cons_zero]
      (apply reg_take 2 rfl rfl (by decide +kernel) rfl); (rintro w' ⟨h1, h2⟩; go_simp; rfl); exact hS0; simp only [List.setIfInBounds_toArray, List.set_cons_succ, List.set_cons_zero]
      (apply reg_take 3 rfl rfl (by decide +kernel) rfl); (rintro w' ⟨h1, h2⟩; go_simp; rfl); exact hS0; simp only [List.setIfInBounds_toArray, List.set_cons_succ, List.set_cons_zero]
      (apply reg_take 4 rfl rfl (by decide +kernel) rfl); (rintro w' ⟨h1, h2⟩; go_simp; rfl); exact hS0; simp only [List.setIfInBounds_toArray, List.set_cons_succ, List.set_cons_zero]
      (apply reg_take 5 rfl rfl (by decide +kernel) rfl); (rintro w' ⟨h1, h2⟩; go_simp; rfl); exact hS0; simp only [List.setIfInBounds_toArray, List.set_cons_succ, List.set_cons_zero]
      (apply reg_take 6 rfl rfl (by decide +kernel) rfl); (rintro w' ⟨h1, h2⟩; go_simp; rfl); exact hS0; simp only [List.setIfInBounds_toArray, List.set_cons_succ, List.set_cons_zero]
      (apply reg_take 7 rfl rfl (by decide +kernel) rfl); (rintro w' ⟨h1, h2⟩; go_simp; rfl); exact hS0; simp only [List.setIfInBounds_toArray, List.set_cons_succ, List.set_cons_zero]
      (apply reg_take 8 rfl rfl (by decide +kernel) rfl); (rintro w' ⟨h1, h2⟩; go_simp; rfl); exact hS0; simp only [List.setIfInBounds_toArray, List.set_cons_succ, List.set_cons_zero]
      (apply reg_take 9 rfl rfl (by decide +kernel) rfl); (rintro w' ⟨h1, h2⟩; go_simp; rfl); exact hS0; simp only [List.setIfInBounds_toArray, List.set_cons_succ, List.set_cons_zero]
      (apply reg_take 10 rfl rfl (by decide +kernel) rfl); (rintro w' ⟨h1, h2⟩; go_simp; rfl); exact hS0; simp only [List.setIfInBounds_toArray, List.set_cons_succ, List.set_cons_zero]
      (apply reg_take 11 rfl rfl (by decide +kernel) rfl); (rintro w' ⟨h1, h2⟩; go_simp; rfl); exact hS0; simp only [List.setIfInBounds_toArray, List.set_cons_succ, List.set_cons_zero]
      (apply reg_take 12 rfl rfl (by decide +kernel) rfl); (rintro w' ⟨h1, h2⟩; go_simp; rfl); exact hS0; simp only [List.setIfInBounds_toArray, List.set_cons_succ, List.set_cons_zero]
      (apply reg_take 13 rfl rfl (by decide +kernel) rfl); (rintro w' ⟨h1, h2⟩; go_simp; rfl); exact hS0; simp only [List.setIfInBounds_toArray, List.set_cons_succ, List.set_cons_zero]
      (apply reg_take 14 rfl rfl (by decide +kernel) rfl); (rintro w' ⟨h1, h2⟩; go_simp; rfl); exact hS0; simp only [List.setIfInBounds_toArray, List.set_cons_succ, List.set_cons_zero]
      (apply reg_take 15 rfl rfl (by decide +kernel) rfl); (rintro w' ⟨h1, h2⟩; go_simp; rfl); exact hS0; simp only [List.setIfInBounds_toArray, List.set_cons_succ, List.set_cons_zero]
      (apply reg_take 16 rfl rfl (by decide +kernel) rfl); (rintro w' ⟨h1, h2⟩; go_simp; rfl); exact hS0; simp only [List.setIfInBounds_toArray, List.set_cons_succ, List.set_cons_zero]
      (apply reg_take 17 rfl rfl (by decide +kernel) rfl); (rintro w' ⟨h1, h2⟩; go_simp; rfl); exact hS0; simp only [List.setIfInBounds_toArray, List.set_cons_succ, List.set_cons_zero]
      (apply reg_take 18 rfl rfl (by decide +kernel) rfl); (rintro w' ⟨h1, h2⟩; go_simp; rfl); exact hS0; simp only [List.setIfInBounds_toArray, List.set_cons_succ, List.set_cons_zero]
      (apply reg_take 19 rfl rfl (by decide +kernel) rfl); (rintro w' ⟨h1, h2⟩; go_simp; rfl); exact hS0; simp only [List.setIfInBounds_toArray, List.set_cons_succ, List.set_cons_zero]
      (apply reg_take 20 rfl rfl (by decide +kernel) rfl); (rintro w' ⟨h1, h2⟩; go_simp; rfl); exact hS0; simp only [List.setIfInBounds_toArray, List.set_cons_succ, List.set_cons_zero]
      (apply reg_take 21 rfl rfl (by decide +kernel) rfl); (rintro w' ⟨h1, h2⟩; go_simp; rfl); exact hS0; simp only [List.setIfInBounds_toArray, List.set_cons_succ, List.set_cons_zero]
      (apply reg_take 22 rfl rfl (by decide +kernel) rfl); (rintro w' ⟨h1, h2⟩; go_simp; rfl); exact hS0; simp only [List.setIfInBounds_toArray, List.set_cons_succ, List.set_cons_zero]
      (apply reg_take 23 rfl rfl (by decide +kernel) rfl); (rintro w' ⟨h1, h2⟩; go_simp; rfl); exact hS0; simp only [List.setIfInBounds_toArray, List.set_cons_succ, List.set_cons_zero]
      refine reg_call 24 rfl rfl (by decide +kernel) rfl (f := 15) (args := #[d1, d2]) (R := fun v w' => v = .bool true ∧ Below w9.heap.size w9 w') (by kernel_rfl) ((ints27_any d1 d2 (diffMM S a b).1 w9 HD1.out.1 HD1.out.2).mono fun e w' h => ⟨_, h.1, rfl, h.2⟩) ?_
      rintro _ w10 ⟨rfl, h2⟩
      clear HD1
      replace HF := Lib.hid (HF.out.next h2)
      clear h2 hS0
      have hS0 : w10.cell? ⟨R, 0, none⟩ = some (.slice a0 S.vols.length b0) ∧ w10.cell? ⟨R, 1, none⟩ = some (.slice a1 S.snaps.length b1) := ⟨cells_at HF.out.bx 0, cells_at HF.out.bx 1⟩
      refine ⟨hS0, ?_⟩
      simp only [List.setIfInBounds_toArray, List.set_cons_succ, List.set_cons_zero]
      (apply reg_take 25 rfl rfl (by decide +kernel) rfl); (rintro w' ⟨h1, h2⟩; go_simp; rfl); exact hS0; simp only [List.setIfInBounds_toArray, List.set_cons_succ, List.set_cons_zero]
      (apply reg_take 26 rfl rfl (by decide +kernel) rfl); (rintro w' ⟨h1, h2⟩; go_simp; rfl); exact hS0; simp only [List.setIfInBounds_toArray, List.set_cons_succ, List.set_cons_zero]
      (apply reg_take 27 rfl rfl (by decide +kernel) rfl); (rintro w' ⟨h1, h2⟩; go_simp; rfl); exact hS0; simp only [List.setIfInBounds_toArray, List.set_cons_succ, List.set_cons_zero]
      (apply reg_take 28 rfl rfl (by decide +kernel) rfl); (rintro w' ⟨h1, h2⟩; go_simp; rfl); exact hS0; simp only [List.setIfInBounds_toArray, List.set_cons_succ, List.set_cons_zero]
      (apply reg_take 29 rfl rfl (by decide +kernel) rfl); (rintro w' ⟨h1, h2⟩; go_simp; rfl); exact hS0; simp only [List.setIfInBounds_toArray, List.set_cons_succ, List.set_cons_zero]
      (apply reg_take 30 rfl rfl (by decide +kernel) rfl); (rintro w' ⟨h1, h2⟩; go_simp; rfl); exact hS0; simp only [List.setIfInBounds_toArray, List.set_cons_succ, List.set_cons_zero]
      (apply reg_take 31 rfl rfl (by decide +kernel) rfl); (rintro w' ⟨h1, h2⟩; go_simp; rfl); exact hS0; simp only [List.setIfInBounds_toArray, List.set_cons_succ, List.set_cons_zero]
      (apply reg_take 32 rfl rfl (by decide +kernel) rfl); (rintro w' ⟨h1, h2⟩; go_simp; rfl); exact hS0; simp only [List.setIfInBounds_toArray, List.set_cons_succ, List.set_cons_zero]
      (apply reg_take 33 rfl rfl (by decide +kernel) rfl); (rintro w' ⟨h1, h2⟩; go_simp; rfl); exact hS0; simp only [List.setIfInBounds_toArray, List.set_cons_succ, List.set_cons_zero]
      (apply reg_take 35 rfl rfl (by decide +kernel) rfl); (rintro w' ⟨h1, h2⟩; go_simp; rfl); exact hS0; simp only [List.setIfInBounds_toArray, List.set_cons_succ, List.set_cons_zero]
      (apply reg_take 36 rfl rfl (by decide +kernel) rfl); (rintro w' ⟨h1, h2⟩; go_simp; rfl); exact hS0; simp only [List.setIfInBounds_toArray, List.set_cons_succ, List.set_cons_zero]
      refine reg_call 34 rfl rfl (by decide +kernel) rfl (f := 17) (args := #[.pointer (some ⟨p, 0, none⟩), .int .i64 chunk]) (R := fun v w' => Hid (Below w10.heap.size w10 w' ∧ RowsAt w' v (refsS S chunk).length ((refsS S chunk).flatMap refE))) (by kernel_rfl) ((refsS_any p S chunk w10 HF.out.sp HWF.out).mono fun e w' h => by
        obtain ⟨v, rfl, h⟩ := h
        exact ⟨v, rfl, h⟩) ?_
      rintro q1 w11 h2
      replace HF := Lib.hid (HF.out.next h2.out.1)
      have HQ := Lib.hid h2.out.2
      clear h2 hS0
      have hS0 : w11.cell? ⟨R, 0, none⟩ = some (.slice a0 S.vols.length b0) ∧ w11.cell? ⟨R, 1, none⟩ = some (.slice a1 S.snaps.length b1) := ⟨cells_at HF.out.bx 0, cells_at HF.out.bx 1⟩
      refine ⟨hS0, ?_⟩
      simp only [List.setIfInBounds_toArray, List.set_cons_succ, List.set_cons_zero]
      refine reg_call 37 rfl rfl (by decide +kernel) rfl (f := 18) (args := #[.agg #[.slice a0 S.vols.length b0, .slice a1 S.snaps.length b1], .int .i64 chunk]) (R := fun v w' => Hid (Below w11.heap.size w11 w' ∧ RowsAt w' v (refsS S chunk).length ((refsS S chunk).flatMap refE))) (by kernel_rfl) ((rrefs_any _ _ S chunk w11 HF.out.rf HWF.out).mono fun e w' h => by
        obtain ⟨v, rfl, h⟩ := h
        exact ⟨v, rfl, h⟩) ?_
      rintro q2 w12 h2
      replace HF := Lib.hid (HF.out.next h2.out.1)
      replace HQ := Lib.hid (And.intro (HQ.out.below h2.out.1) h2.out.2)
      clear h2 hS0
      have hS0 : w12.cell? ⟨R, 0, none⟩ = some (.slice a0 S.vols.length b0) ∧ w12.cell? ⟨R, 1, none⟩ = some (.slice a1 S.snaps.length b1) := ⟨cells_at HF.out.bx 0, cells_at HF.out.bx 1⟩
      refine ⟨hS0, ?_⟩
      simp only [List.setIfInBounds_toArray, List.set_cons_succ, List.set_cons_zero]
      refine reg_call 38 rfl rfl (by decide +kernel) rfl (f := 16) (args := #[q1, q2]) (R := fun v w' => v = .bool true ∧ Below w12.heap.size w12 w') (by kernel_rfl) ((refs_any q1 q2 (refsS S chunk) (refsS S chunk) w12 HQ.out.1 HQ.out.2).mono fun e w' h => ⟨_, h.1, by rw [decide_eq_true rfl], h.2⟩) ?_
      rintro _ w13 ⟨rfl, h2⟩
      replace HF := Lib.hid (HF.out.next h2)
      clear h2 hS0 HQ
      have hS0 : w13.cell? ⟨R, 0, none⟩ = some (.slice a0 S.vols.length b0) ∧ w13.cell? ⟨R, 1, none⟩ = some (.slice a1 S.snaps.length b1) := ⟨cells_at HF.out.bx 0, cells_at HF.out.bx 1⟩
      refine ⟨hS0, ?_⟩
      simp only [List.setIfInBounds_toArray, List.set_cons_succ, List.set_cons_zero]
      (apply reg_take 39 rfl rfl (by decide +kernel) rfl); (rintro w' ⟨h1, h2⟩; go_simp; rfl); exact hS0; simp only [List.setIfInBounds_toArray, List.set_cons_succ, List.set_cons_zero]
      (apply reg_take 40 rfl rfl (by decide +kernel) rfl); (rintro w' ⟨h1, h2⟩; go_simp; rfl); exact hS0; simp only [List.setIfInBounds_toArray, List.set_cons_succ, List.set_cons_zero]
      refine reg_done (by decide +kernel) ?_
      clear hS0
      go_wp2
      go_ret
      exact ⟨rfl, HF.out.bl⟩
end Go.Proofs.YtednjhlkhecihaaGreatDoor
