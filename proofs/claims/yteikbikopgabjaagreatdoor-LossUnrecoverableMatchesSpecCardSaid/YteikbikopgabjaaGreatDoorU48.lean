import Derived.Test.YteikbikopgabjaaGreatDoorU47
import Derived.Test.YteikbikopgabjaaGreatDoorU17
/- Part 48 of a proof; the last part says what is proved. -/
section
namespace Go.Proofs.YteikbikopgabjaaGreatDoor
open Go.RowKit Go.Sha Go.Sl Go.GF Go.Vol Go.Loss
theorem rowsO_block {W : World} {b n cap : Nat} {c : Array Value} {t : TypeId} (h : W.heap[b]? = some (.cells c t (0, 0))) (hn : n ≤ maxLen) : RowsO W (.slice (some ⟨b, 0, none⟩) n cap) n c.toList :=
  ⟨_, _, rfl, hn, fun _ => ⟨b, 0, rfl, (Array.getElem?_eq_some_iff.1 h).1, fun j u hu => by rw [Nat.zero_add, cells_at h]; rwa [Array.getElem?_toList] at hu⟩⟩
def sA (b : Nat) : List ElC := [(⟨0, 0, 0, [(4, 2), (7, 3)]⟩, .slice (some ⟨b, 0, none⟩) 2 2)]
def sB (b : Nat) : List ElC := [(⟨5, 0, 0, [(4, 2)]⟩, .slice (some ⟨b, 0, none⟩) 1 1)]
theorem san_valid : validS sanA sanB := by
  unfold validS sanA sanB
  simp [validC, okC, validM]
theorem san_good (a b : Nat) : GoodP (sA a) (sB b) sanI := by
  refine ⟨⟨by simp [sA], by simp [sB], by simp [sanI], fun x hx => ?_, fun x hx => ?_⟩, san_valid⟩
  · unfold sA at hx; rw [List.mem_singleton.1 hx]; simp
  · unfold sB at hx; rw [List.mem_singleton.1 hx]; simp
structure SanA (w : World) (n : Nat) (W : World) : Prop where
  bl : Below w.heap.size w W
  a : CntL W (.slice (some ⟨n + 1, 0, none⟩) 1 1) (sA n)
  b : CntL W (.slice (some ⟨n + 1 + 1 + 1, 0, none⟩) 1 1) (sB (n + 1 + 1))
  i : ItL W (.slice (some ⟨n + 1 + 1 + 1 + 1, 0, none⟩) 3 3) sanI
  x0 : W.cell? ⟨n + 1 + 1 + 1 + 1 + 1, 0, none⟩ = some (.slice (some ⟨n + 1, 0, none⟩) 1 1)
  x1 : W.cell? ⟨n + 1 + 1 + 1 + 1 + 1, 1, none⟩ = some (.slice (some ⟨n + 1 + 1 + 1, 0, none⟩) 1 1)
  x2 : W.cell? ⟨n + 1 + 1 + 1 + 1 + 1, 2, none⟩ = some (.slice (some ⟨n + 1 + 1 + 1 + 1, 0, none⟩) 3 3)
theorem san_args (w : World) (t1 t2 t3 t4 t5 t6 : TypeId) : SanA w w.heap.size ((((((w.alloc (.cells #[.int .i64 4, .int .i64 2, .int .i64 7, .int .i64 3] t1)).alloc (.cells #[.int .i64 0, .int .i64 0, .int .i64 0, .slice (some ⟨w.heap.size, 0, none⟩) 2 2] t2)).alloc (.cells #[.int .i64 4, .int .i64 2] t3)).alloc
    (.cells #[.int .i64 5, .int .i64 0, .int .i64 0, .slice (some ⟨w.heap.size + 1 + 1, 0, none⟩) 1 1] t4)).alloc (.cells #[.int .u8 1, .bool false, .int .u8 2, .bool true, .int .u8 3, .bool false] t5)).alloc
    (.cells #[.slice (some ⟨w.heap.size + 1, 0, none⟩) 1 1, .slice (some ⟨w.heap.size + 1 + 1 + 1, 0, none⟩) 1 1, .slice (some ⟨w.heap.size + 1 + 1 + 1 + 1, 0, none⟩) 3 3] t6)) := by
  have h := ((((((Sat.old w).alloc (.cells #[.int .i64 4, .int .i64 2, .int .i64 7, .int .i64 3] t1)).alloc (.cells #[.int .i64 0, .int .i64 0, .int .i64 0, .slice (some ⟨w.heap.size, 0, none⟩) 2 2] t2)).alloc (.cells #[.int .i64 4, .int .i64 2] t3)).alloc
    (.cells #[.int .i64 5, .int .i64 0, .int .i64 0, .slice (some ⟨w.heap.size + 1 + 1, 0, none⟩) 1 1] t4)).alloc (.cells #[.int .u8 1, .bool false, .int .u8 2, .bool true, .int .u8 3, .bool false] t5)).alloc
    (.cells #[.slice (some ⟨w.heap.size + 1, 0, none⟩) 1 1, .slice (some ⟨w.heap.size + 1 + 1 + 1, 0, none⟩) 1 1, .slice (some ⟨w.heap.size + 1 + 1 + 1 + 1, 0, none⟩) 3 3] t6)
  have hs := ((((((Same.refl w).alloc (.cells #[.int .i64 4, .int .i64 2, .int .i64 7, .int .i64 3] t1)).alloc (.cells #[.int .i64 0, .int .i64 0, .int .i64 0, .slice (some ⟨w.heap.size, 0, none⟩) 2 2] t2)).alloc (.cells #[.int .i64 4, .int .i64 2] t3)).alloc
    (.cells #[.int .i64 5, .int .i64 0, .int .i64 0, .slice (some ⟨w.heap.size + 1 + 1, 0, none⟩) 1 1] t4)).alloc (.cells #[.int .u8 1, .bool false, .int .u8 2, .bool true, .int .u8 3, .bool false] t5)).alloc
    (.cells #[.slice (some ⟨w.heap.size + 1, 0, none⟩) 1 1, .slice (some ⟨w.heap.size + 1 + 1 + 1, 0, none⟩) 1 1, .slice (some ⟨w.heap.size + 1 + 1 + 1 + 1, 0, none⟩) 3 3] t6)
  have e1 : ∀ (W : World) o, (W.alloc o).heap.size = W.heap.size + 1 := fun W o => by simp
  simp only [e1] at h
  generalize (((((w.alloc (.cells #[.int .i64 4, .int .i64 2, .int .i64 7, .int .i64 3] t1)).alloc (.cells #[.int .i64 0, .int .i64 0, .int .i64 0, .slice (some ⟨w.heap.size, 0, none⟩) 2 2] t2)).alloc (.cells #[.int .i64 4, .int .i64 2] t3)).alloc
    (.cells #[.int .i64 5, .int .i64 0, .int .i64 0, .slice (some ⟨w.heap.size + 1 + 1, 0, none⟩) 1 1] t4)).alloc (.cells #[.int .u8 1, .bool false, .int .u8 2, .bool true, .int .u8 3, .bool false] t5)).alloc
    (.cells #[.slice (some ⟨w.heap.size + 1, 0, none⟩) 1 1, .slice (some ⟨w.heap.size + 1 + 1 + 1, 0, none⟩) 1 1, .slice (some ⟨w.heap.size + 1 + 1 + 1 + 1, 0, none⟩) 3 3] t6) = W at h hs ⊢
  have h5 := h.right
  have h4 := h5.right
  have h3 := h4.right
  have h2 := h3.right
  have h1 := h2.right
  refine ⟨hs.below_of (P := emp) (h1.right.perm (emp_star _).symm), ⟨rowsO_block h2.block (by decide), fun x hx => ?_⟩, ⟨rowsO_block h4.block (by decide), fun x hx => ?_⟩, rowsO_block h5.block (by decide), ?_, ?_, ?_⟩
  · unfold sA at hx
    rw [List.mem_singleton.1 hx]
    exact rowsO_block h1.block (by decide)
  · unfold sB at hx
    rw [List.mem_singleton.1 hx]
    exact rowsO_block h3.block (by decide)
  · rw [cells_at h.block]; rfl
  · rw [cells_at h.block]; rfl
  · rw [cells_at h.block]; rfl
theorem rowI_block {W : World} {b n cap : Nat} {c : Array Value} {t : TypeId} (h : W.heap[b]? = some (.cells c t (0, 0))) (hn : c.size = n) (h1 : n ≤ cap) (h2 : cap ≤ maxLen) : RowI W (.slice (some ⟨b, 0, none⟩) n cap) c.toList := by
  refine ⟨_, _, by rw [Array.length_toList, hn], by rw [Array.length_toList, hn]; exact h1, h2, fun _ => ⟨b, 0, rfl, (Array.getElem?_eq_some_iff.1 h).1, fun j u hu => by rw [Nat.zero_add, cells_at h]; rwa [Array.getElem?_toList] at hu⟩⟩
structure SanC (w : World) (n : Nat) (W : World) : Prop where
  bl : Below w.heap.size w W
  p : RowsI W (.slice (some ⟨n + 1 + 1, 0, none⟩) 2 2) sanP
  h : RowI W (.slice (some ⟨n + 1 + 1 + 1 + 1, 0, none⟩) 5 5) (boolsV sanH)
  l : RowI W (.slice (some ⟨n + 1 + 1 + 1 + 1 + 1, 0, none⟩) 2 2) (intsV [1, 2])
theorem san_code (w : World) (t1 t2 t3 t4 t5 t6 : TypeId) : SanC w w.heap.size ((((((w.alloc (.cells #[.int .i64 1, .int .i64 1, .int .i64 1] t1)).alloc (.cells #[.int .i64 1, .int .i64 2, .int .i64 0] t2)).alloc (.cells #[.slice (some ⟨w.heap.size, 0, none⟩) 3 3, .slice (some ⟨w.heap.size + 1, 0, none⟩) 3 3] t3)).alloc
    (.cells #[.string ⟨#[]⟩, .int .i64 8, .int .i64 3, .slice (some ⟨w.heap.size + 1 + 1, 0, none⟩) 2 2, .int .i64 0] t4)).alloc (.cells #[.bool true, .bool false, .bool false, .bool false, .bool true] t5)).alloc (.cells #[.int .i64 1, .int .i64 2] t6)) := by
  have h := ((((((Sat.old w).alloc (.cells #[.int .i64 1, .int .i64 1, .int .i64 1] t1)).alloc (.cells #[.int .i64 1, .int .i64 2, .int .i64 0] t2)).alloc (.cells #[.slice (some ⟨w.heap.size, 0, none⟩) 3 3, .slice (some ⟨w.heap.size + 1, 0, none⟩) 3 3] t3)).alloc
    (.cells #[.string ⟨#[]⟩, .int .i64 8, .int .i64 3, .slice (some ⟨w.heap.size + 1 + 1, 0, none⟩) 2 2, .int .i64 0] t4)).alloc (.cells #[.bool true, .bool false, .bool false, .bool false, .bool true] t5)).alloc (.cells #[.int .i64 1, .int .i64 2] t6)
  have hs := ((((((Same.refl w).alloc (.cells #[.int .i64 1, .int .i64 1, .int .i64 1] t1)).alloc (.cells #[.int .i64 1, .int .i64 2, .int .i64 0] t2)).alloc (.cells #[.slice (some ⟨w.heap.size, 0, none⟩) 3 3, .slice (some ⟨w.heap.size + 1, 0, none⟩) 3 3] t3)).alloc
    (.cells #[.string ⟨#[]⟩, .int .i64 8, .int .i64 3, .slice (some ⟨w.heap.size + 1 + 1, 0, none⟩) 2 2, .int .i64 0] t4)).alloc (.cells #[.bool true, .bool false, .bool false, .bool false, .bool true] t5)).alloc (.cells #[.int .i64 1, .int .i64 2] t6)
  have e1 : ∀ (W : World) o, (W.alloc o).heap.size = W.heap.size + 1 := fun W o => by simp
  simp only [e1] at h
  generalize (((((w.alloc (.cells #[.int .i64 1, .int .i64 1, .int .i64 1] t1)).alloc (.cells #[.int .i64 1, .int .i64 2, .int .i64 0] t2)).alloc (.cells #[.slice (some ⟨w.heap.size, 0, none⟩) 3 3, .slice (some ⟨w.heap.size + 1, 0, none⟩) 3 3] t3)).alloc
    (.cells #[.string ⟨#[]⟩, .int .i64 8, .int .i64 3, .slice (some ⟨w.heap.size + 1 + 1, 0, none⟩) 2 2, .int .i64 0] t4)).alloc (.cells #[.bool true, .bool false, .bool false, .bool false, .bool true] t5)).alloc (.cells #[.int .i64 1, .int .i64 2] t6) = W at h hs ⊢
  have h5 := h.right
  have h4 := h5.right
  have h3 := h4.right
  have h2 := h3.right
  have h1 := h2.right
  refine ⟨hs.below_of (P := emp) (h1.right.perm (emp_star _).symm), ⟨_, rowI_block h3.block rfl (by decide) (by decide), rfl, fun i x hx => ?_⟩, rowI_block h5.block rfl (by decide) (by decide), rowI_block h.block rfl (by decide) (by decide)⟩
  match i, hx with
  | 0, hx =>
    cases hx
    exact ⟨[1, 1, 1], rfl, rowI_block h1.block rfl (by decide) (by decide)⟩
  | 1, hx =>
    cases hx
    exact ⟨[1, 2, 0], rfl, rowI_block h2.block rfl (by decide) (by decide)⟩
set_option maxRecDepth 20000 in
set_option maxHeartbeats 4000000 in
theorem sanity41_any (w : World) (hK : TabK w) (hT : TabF w) : Calls Tryz.prog 9 #[] w fun e w' => e = .returned (.bool true) ∧ Below w.heap.size w w' := by
  go_enter Tryz.func9, Tryz.ntmps9
  go_upto_region 2 with (fail)
  have HA := Lib.hid (san_args w 74 77 74 77 60 25)
  generalize ((((((w.alloc (.cells #[.int .i64 4, .int .i64 2, .int .i64 7, .int .i64 3] 74)).alloc (.cells #[.int .i64 0, .int .i64 0, .int .i64 0, .slice (some ⟨w.heap.size, 0, none⟩) 2 2] 77)).alloc (.cells #[.int .i64 4, .int .i64 2] 74)).alloc
    (.cells #[.int .i64 5, .int .i64 0, .int .i64 0, .slice (some ⟨w.heap.size + 1 + 1, 0, none⟩) 1 1] 77)).alloc (.cells #[.int .u8 1, .bool false, .int .u8 2, .bool true, .int .u8 3, .bool false] 60)).alloc
    (.cells #[.slice (some ⟨w.heap.size + 1, 0, none⟩) 1 1, .slice (some ⟨w.heap.size + 1 + 1 + 1, 0, none⟩) 1 1, .slice (some ⟨w.heap.size + 1 + 1 + 1 + 1, 0, none⟩) 3 3] 25)) = w1 at HA ⊢
  have HT := Lib.hid (hT.below HA.out.bl)
  have HBU := Lib.hid (build_any41 _ _ _ _ _ _ w1 HA.out.a HA.out.b HA.out.i (hK.below HA.out.bl))
  obtain ⟨x0, x1, x2⟩ : _ ∧ _ ∧ _ := ⟨HA.out.x0, HA.out.x1, HA.out.x2⟩
  have HBL := Lib.hid HA.out.bl
  have HSZ := Lib.hid (san_good w.heap.size (w.heap.size + 1 + 1))
  clear HA hK hT
  generalize w.heap.size = n at HBU HSZ x0 x1 x2 ⊢
  go_upto_region 3 with (go_at_call 10; refine HBU.out.mono ?_; rintro e w2 h2; rcases h2.out with ⟨-, q, p, rfl, h3⟩ | ⟨h3, -⟩; rotate_left; exact absurd HSZ.out h3; have HB := Lib.hid h3; clear h2 h3)
  clear x0 x1 x2 HBU HSZ
  obtain ⟨b, cap, at_, rb, kv, wb, hb, hsp, hsm, hst, -⟩ := HB.out.at_
  have hb2 := hsm.below_of hst
  have hb12 := hb.trans (hb2.mono hb.size)
  have HT2 := Lib.hid (HT.out.below hb12)
  have HB2 := Lib.hid (HBL.out.trans (hb12.mono HBL.out.size))
  have HSP := Lib.hid (show SpaceAt TNode TSp w2 q (spaceC sanA sanB) from hsp.below hb2)
  have HTR := Lib.hid (tab_read hst (by decide))
  have HCW := Lib.hid (san_code w2 TI TI 36 46 4 TI)
  have HUN := Lib.hid (unrec_any ⟨#[]⟩ 8 3 _ 0 sanP (by decide) _ _ sanH [1, 2] (by decide) _ (HT2.out.below HCW.out.bl) HCW.out.p HCW.out.h HCW.out.l)
  rw [san_unrB, san_unrL, show errU true = 0 from rfl] at HUN
  unfold codeV at HUN
  clear hb hsp hsm hst hb2 hb12 HT HBL HB
  go_upto_region 7 with (go_at_call 21; refine HUN.out.mono ?_; rintro e w3 ⟨v, rfl, h3, h4⟩)
  obtain ⟨gv, cv, rfl, hcv⟩ := ownAt_cells h4 (by decide)
  have d0 : w3.cell? ⟨gv, 0, none⟩ = some (.int .i64 2) := hcv 0 _ rfl
  have hb23 := HCW.out.bl.trans ((h3.below_of h4).mono HCW.out.bl.size)
  have HB3 := Lib.hid (HB2.out.trans (hb23.mono HB2.out.size))
  have HSP3 := Lib.hid (HSP.out.below hb23)
  have HTR3 := Lib.hid (HTR.out.below hb23)
  have HSM := Lib.hid (show SmallS (spaceC sanA sanB) from small_space (san_good 0 0))
  have HWF := Lib.hid (spaceC_wf san_valid)
  have HRP := Lib.hid (report_any q (spaceC sanA sanB) p b cap rb (chunksM sanI) w3 HSP3.out HWF.out HSM.out HTR3.out)
  rw [san_lossR] at HRP
  clear hcv h3 h4 hb23 HUN HCW HB2 HSP HTR HT2
  go_upto_region 8 with (go_at_call 12; refine HRP.out.mono ?_; rintro e w4 ⟨v2, rfl, h5, h6⟩)
  replace h6 : Sat w4 (ownAt TGn 19 v2 2 ([(false, 0, 4, 2), (true, 5, 4, 2)].flatMap gnE) * old w3) := h6
  obtain ⟨g2, cv2, rfl, hc2⟩ := ownAt_cells h6 (by decide)
  have r0 : w4.cell? ⟨g2, 19, none⟩ = some (.bool true) := hc2 _ _ (flat_at gnE_len [(false, 0, 4, 2), (true, 5, 4, 2)] 1 (true, 5, 4, 2) rfl 0 _ rfl)
  have r1 : w4.cell? ⟨g2, 20, none⟩ = some (.int .i64 5) := hc2 _ _ (flat_at gnE_len [(false, 0, 4, 2), (true, 5, 4, 2)] 1 (true, 5, 4, 2) rfl 1 _ rfl)
  have hb34 := h5.below_of h6
  have e0 : w4.cell? ⟨gv, 0, none⟩ = some (.int .i64 2) := (hb34.cell (p := ⟨gv, 0, none⟩) (World.block_lt_of_cell? _ _ d0)).trans d0
  have HB4 := Lib.hid (HB3.out.trans (hb34.mono HB3.out.size))
  have HWA := Lib.hid (waiting_any p b cap rb (chunksM sanI) w4 (HTR3.out.below hb34))
  rw [san_waitL] at HWA
  have HTA := Lib.hid (fun W (hb : Below w4.heap.size w4 W) => tally_any q (spaceC sanA sanB) p b cap rb (chunksM sanI) W (HSP3.out.below (hb34.trans (hb.mono hb34.size))) HWF.out HSM.out (HTR3.out.below (hb34.trans (hb.mono hb34.size))))
  clear hc2 h5 h6 hb34 d0 HRP HTR3 HSP3 HB3 HSM HWF
  go_wp2_with (first
    | (go_at_call 18; refine HWA.out.mono ?_; rintro e w5 ⟨v3, rfl, h5, h6⟩; have H5 := Lib.hid (And.intro h5 h6); obtain ⟨a3, c3, rfl⟩ := ownAt_slice (show Sat w5 (ownAt TD 16 v3 1 ([2].flatMap dgE) * old w4) from h6); clear h5 h6)
    | (go_at_call 15; refine (HTA.out w5 (H5.out.1.below_of H5.out.2)).mono ?_; rintro e w6 ⟨v4, rfl, h7, h8⟩; have H6 := Lib.hid (And.intro h7 h8); obtain ⟨a4, c4, rfl⟩ := ownAt_slice h8; clear h7 h8))
  go_ret
  exact ⟨rfl, HB4.out.trans (((H5.out.1.below_of H5.out.2).trans ((H6.out.1.below_of H6.out.2).mono (H5.out.1.below_of H5.out.2).size)).mono HB4.out.size)⟩
end Go.Proofs.YteikbikopgabjaaGreatDoor
end
section
namespace Go.Proofs.YteikbikopgabjaaGreatDoor
open Go.RowKit Go.Sha Go.Sl Go.GF Go.Vol Go.Loss
def smallB (k : Int) (L : List (List Int)) : Bool := decide (k ≤ 12) && (decide (L.length ≤ 8) && L.all fun r => decide (r.length ≤ 12))
structure SmL (L : List (List Int)) (w : World) (i : Value) (wr : World) : Prop where
  st : ∃ k : Nat, k ≤ L.length ∧ i = .int .i64 (k : Int) ∧ wr = w ∧ (L.take k).all (fun r => decide (r.length ≤ 12)) = true
set_option maxRecDepth 20000 in
set_option maxHeartbeats 2000000 in
theorem small8_any (nm : ByteArray) (f kd : Int) (pv : Value) (dom : Int) (L : List (List Int)) (w : World) (hp : RowsI w pv L) :
    Calls Tryz.prog 20 #[.agg (codeV nm f kd pv dom)] w fun e w' => e = .returned (.bool (smallB kd L)) ∧ Below w.heap.size w w' := by
  have hab := al_below w (.cells (codeV nm f kd pv dom) 46)
  have HAB := Lib.hid hab
  have HP := Lib.hid (hp.below hab)
  have HBX := Lib.hid (code_box w (w.alloc (.cells (codeV nm f kd pv dom) 46)) (codeV nm f kd pv dom) 46 (Below.refl _ _)).1
  obtain ⟨ap, cp, rfl⟩ := RowsI.shape hp
  clear hp hab
  obtain ⟨B, hB⟩ : ∃ B, B = smallB kd L := ⟨_, rfl⟩
  have HBQ := Lib.hid (show B = (decide (kd ≤ 12) && (decide (L.length ≤ 8) && L.all fun r => decide (r.length ≤ 12))) from hB)
  rw [← hB]
  clear hB
  unfold codeV at HP HAB HBX ⊢
  go_enter Tryz.func20, Tryz.ntmps20
  go_upto_region 1 with (fail)
  generalize w.alloc (.cells #[.string nm, .int .i64 f, .int .i64 kd, .slice ap L.length cp, .int .i64 dom] 46) = w1 at HP HAB HBX ⊢
  generalize w.heap.size = g1 at HBX ⊢
  obtain ⟨c0, c1, c2, c3, -⟩ := Box.code (nm := nm) (dom := dom) HBX.out
  by_cases hk : kd ≤ 12
  rotate_left
  · have hkd : decide (12 < kd) = true := decide_eq_true (by omega)
    have HV := Lib.hid (show B = false by rw [HBQ.out, decide_eq_false hk, Bool.false_and])
    go_wp2
    go_ret
    rw [HV.out]
    exact ⟨rfl, HAB.out⟩
  have hkd : decide (12 < kd) = false := decide_eq_false (by omega)
  have HB1 := Lib.hid (show B = (decide (L.length ≤ 8) && L.all fun r => decide (r.length ≤ 12)) by rw [HBQ.out, decide_eq_true hk, Bool.true_and])
  clear HBQ
  by_cases hl : L.length ≤ 8
  rotate_left
  · have hld : decide (8 < L.length) = true := decide_eq_true (by omega)
    have hld2 : decide (8 < (L.length : Int)) = true := decide_eq_true (by omega)
    have HV := Lib.hid (show B = false by rw [HB1.out, decide_eq_false hl, Bool.false_and])
    go_wp2
    go_ret
    rw [HV.out]
    exact ⟨rfl, HAB.out⟩
  have hld : decide (8 < L.length) = false := decide_eq_false (by omega)
  have hld2 : decide (8 < (L.length : Int)) = false := decide_eq_false (by omega)
  have HB2 := Lib.hid (show B = L.all fun r => decide (r.length ≤ 12) by rw [HB1.out, decide_eq_true hl, Bool.true_and])
  clear HB1
  go_wp2
  go_loopw [3] (fun i wr => SmL L w1 i wr) (fun i _ => L.length - (intOf i).toNat)
  case atStart => exact ⟨⟨0, Nat.zero_le _, rfl, rfl, rfl⟩⟩
  case round =>
    obtain ⟨k, hk2, rfl, rfl, hall⟩ := hrel.st
    clear hrel
    have hk8 : (k : Int) ≤ 8 := by omega
    by_cases hin : k < L.length
    · have hid : decide ((k : Int) < (L.length : Int)) = true := decide_eq_true (by omega)
      have hwk : IntKind.i64.wrap ((k : Int) + 1) = (k : Int) + 1 := IntWalk.i64_in _ (by omega)
      obtain ⟨r, hr⟩ : ∃ r, L[k]? = some r := ⟨_, List.getElem?_eq_getElem hin⟩
      obtain ⟨b, off, ao2, cp2, rfl, e1, -⟩ := rowsI_hd HP.out hr
      by_cases hr12 : r.length ≤ 12
      · have hd1 : decide (12 < r.length) = false := decide_eq_false (by omega)
        have hd2 : decide (12 < (r.length : Int)) = false := decide_eq_false (by omega)
        have HN := Lib.hid (show (L.take (k + 1)).all (fun r => decide (r.length ≤ 12)) = true by
          rw [List.take_add_one, hr, Option.toList_some, List.all_append, hall]
          simp [hr12])
        clear hall hr
        go_wp2
        go_roundw
        case rel => exact ⟨⟨k + 1, hin, by push_cast; rfl, rfl, HN.out⟩⟩
        case measure => simp only [intOf]; omega
      · have hd1 : decide (12 < r.length) = true := decide_eq_true (by omega)
        have hd2 : decide (12 < (r.length : Int)) = true := decide_eq_true (by omega)
        have HV := Lib.hid (show B = false by
          rw [HB2.out, List.all_eq_false]
          exact ⟨r, List.mem_of_getElem? hr, by simpa using hr12⟩)
        clear hall hr
        go_wp2
        go_ret
        rw [HV.out]
        exact ⟨rfl, HAB.out⟩
    · have hid : decide ((k : Int) < (L.length : Int)) = false := decide_eq_false (by omega)
      have hke : k = L.length := by omega
      subst hke
      rw [List.take_length] at hall
      have HALL := Lib.hid hall
      clear hall
      go_wp2
      go_ret
      rw [HB2.out, HALL.out]
      exact ⟨rfl, HAB.out⟩
end Go.Proofs.YteikbikopgabjaaGreatDoor
end
section
namespace Go.Proofs.YteikbikopgabjaaGreatDoor
open Go.RowKit Go.Sha Go.Sl Go.GF Go.Vol Go.Loss
theorem recR_here {c : CodeM} (hc : c.Ok) {h : List Bool} {u : Nat} (hu : h[u]? = some true) : recR c h u = true := (recR_iff hc h u).2 (span_mem hc (mem_units.2 hu))
theorem unrL_gone {nm : ByteArray} {f k : Int} {pv : Value} {dom : Int} {w : World} {L : List (List Int)} {h : List Bool} {live : List Int} (hp : RowsI w pv L) {u : Int} (hu : u ∈ unrL f k L h live) : ∃ x : Nat, u = (x : Int) ∧ x < h.length ∧ h[x]? = some false := by
  unfold unrL at hu
  split at hu
  · rename_i hb
    unfold unrB at hb
    simp only [Bool.and_eq_true, decide_eq_true_eq, Bool.not_eq_true'] at hb
    obtain ⟨hv, hl, hany⟩ := hb
    have hok := (code_valid (nm := nm) (dom := dom) hv hp).1.ok
    unfold unrF at hu
    obtain ⟨hul, hur⟩ := List.mem_filter.1 hu
    have h3 := List.any_eq_false.1 hany u hul
    unfold badU at h3
    simp only [Bool.or_eq_true, decide_eq_true_eq, not_or] at h3
    obtain ⟨x, rfl⟩ : ∃ x : Nat, u = (x : Int) := ⟨u.toNat, by omega⟩
    have hx : x < h.length := by omega
    refine ⟨x, rfl, hx, ?_⟩
    rw [List.getElem?_eq_getElem hx]
    cases hb2 : h[x] with
    | false => rfl
    | true =>
      exfalso
      rw [Int.toNat_natCast, recR_here hok (by rw [List.getElem?_eq_getElem hx, hb2])] at hur
      simp at hur
  · simp at hu
theorem ints_own {w : World} {v : Value} {l : List Int} {F : HProp} (h : Sat w (ownAt TI 1 v l.length (intsV l) * F)) : IntsAt w v l := by
  by_cases hl : l = []
  · obtain ⟨ao, cap, rfl⟩ := ownAt_slice h
    exact ⟨ao, cap, rfl, fun hn => absurd hl hn⟩
  · obtain ⟨g, cap, rfl, hc⟩ := ownAt_cells h (List.length_pos_iff.2 hl)
    exact ⟨_, cap, rfl, fun _ => ⟨g, 0, rfl, fun j x hx => by rw [Nat.zero_add, Nat.mul_one]; exact hc j _ (intsV_at hx)⟩⟩
theorem unrL_len (f k : Int) (L : List (List Int)) (h : List Bool) (live : List Int) : (unrL f k L h live).length ≤ live.length := by
  unfold unrL
  split
  · exact List.length_filter_le _ _
  · simp
structure UlL (R : List Int) (w : World) (i : Value) (wr : World) : Prop where
  st : ∃ k : Nat, k ≤ R.length ∧ i = .int .i64 (k : Int) ∧ wr = w
set_option maxRecDepth 20000 in
set_option maxHeartbeats 4000000 in
theorem unrlaw_any (nm : ByteArray) (f kd : Int) (pv : Value) (dom : Int) (L : List (List Int)) (hk63 : -9223372036854775808 ≤ kd ∧ kd ≤ 9223372036854775807) (hv lv : Value) (h : List Bool) (live : List Int) (w : World) (hT : TabF w) (hK : TabK w) (hp : RowsI w pv L) (hr : RowI w hv (boolsV h)) (hlv : RowI w lv (intsV live)) :
    Calls Tryz.prog 4 #[.agg (codeV nm f kd pv dom), hv, lv] w fun e w' => e = .returned (.bool true) ∧ Below w.heap.size w w' := by
  have HSA := Lib.hid (fun W (hb : Below w.heap.size w W) => sanity41_any W (hK.below hb) (hT.below hb))
  have HSM := Lib.hid (fun W (hb : Below w.heap.size w W) => small8_any nm f kd pv dom L W (hp.below hb))
  have HUO := Lib.hid (fun (hl : live.length ≤ 1000) W (hb : Below w.heap.size w W) => unrec_any nm f kd pv dom L hk63 hv lv h live hl W (hT.below hb) (hp.below hb) (hr.below hb) (hlv.below hb))
  have HUR := Lib.hid (fun (hl : live.length ≤ 1000) (h1 : kd ≤ 1000) (h2 : L.length ≤ 100000) W (hb : Below w.heap.size w W) => runrec_any nm f kd pv dom L h1 h2 hv lv h live hl W (hp.below hb) (hr.below hb) (hlv.below hb))
  have HCB := Lib.hid (fun t w1 h => code_box w w1 (codeV nm f kd pv dom) t h)
  have HGO := Lib.hid (fun u (hu : u ∈ unrL f kd L h live) => unrL_gone (nm := nm) (dom := dom) hp hu)
  have HRN := Lib.hid (unrL_len f kd L h live)
  have HHV := Lib.hid (fun W (hb : Below w.heap.size w W) => hr.below hb)
  obtain ⟨ah, ch, rfl, -⟩ := id hr
  obtain ⟨al, cl, rfl, -⟩ := id hlv
  rw [boolsV_len, intsV_len] at *
  clear hT hK hp hr hlv hk63
  unfold codeV at *
  generalize unrL f kd L h live = R at *
  generalize errU (unrB f kd L h live) = eu at *
  by_cases hs : smallB kd L = true
  rotate_left
  · have hsf : smallB kd L = false := by simpa using hs
    rw [hsf] at HSM
    clear hs hsf
    go_enter Tryz.func4, Tryz.ntmps4
    go_wp2_with (first
      | (go_at_call 9; refine (HSA.out _ (al_below w _)).mono ?_; rintro e w1 ⟨rfl, h1⟩; have HB1 := Lib.hid (And.intro ((al_below w _).trans (h1.mono (al_below w _).size)) (HCB.out _ w1 h1).1); obtain ⟨c0, c1, c2, c3, c4⟩ := Box.code (nm := nm) (dom := dom) (HCB.out _ w1 h1).1)
      | (go_at_call 20; refine (HSM.out w1 HB1.out.1).mono ?_; rintro e w2 ⟨rfl, h2⟩))
    go_ret
    exact ⟨rfl, HB1.out.1.trans (h2.mono HB1.out.1.size)⟩
  rw [hs] at HSM
  have hs2 := hs
  unfold smallB at hs2
  simp only [Bool.and_eq_true, decide_eq_true_eq] at hs2
  have hk12 := hs2.1
  have hl8 := hs2.2.1
  clear hs hs2
  by_cases hh24 : h.length ≤ 24
  rotate_left
  · have hd : decide (24 < h.length) = true := decide_eq_true (by omega)
    have hd2 : decide (24 < (h.length : Int)) = true := decide_eq_true (by omega)
    clear hk12 hl8 hh24
    go_enter Tryz.func4, Tryz.ntmps4
    go_wp2_with (first
      | (go_at_call 9; refine (HSA.out _ (al_below w _)).mono ?_; rintro e w1 ⟨rfl, h1⟩; have HB1 := Lib.hid (And.intro ((al_below w _).trans (h1.mono (al_below w _).size)) (HCB.out _ w1 h1).1); obtain ⟨c0, c1, c2, c3, c4⟩ := Box.code (nm := nm) (dom := dom) (HCB.out _ w1 h1).1)
      | (go_at_call 20; refine (HSM.out w1 HB1.out.1).mono ?_; rintro e w2 ⟨rfl, h2⟩))
    go_ret
    exact ⟨rfl, HB1.out.1.trans (h2.mono HB1.out.1.size)⟩
  by_cases hl40 : live.length ≤ 40
  rotate_left
  · have hd : decide (24 < h.length) = false := decide_eq_false (by omega)
    have hd2 : decide (24 < (h.length : Int)) = false := decide_eq_false (by omega)
    have hd3 : decide (40 < live.length) = true := decide_eq_true (by omega)
    have hd4 : decide (40 < (live.length : Int)) = true := decide_eq_true (by omega)
    clear hk12 hl8 hh24 hl40
    go_enter Tryz.func4, Tryz.ntmps4
    go_wp2_with (first
      | (go_at_call 9; refine (HSA.out _ (al_below w _)).mono ?_; rintro e w1 ⟨rfl, h1⟩; have HB1 := Lib.hid (And.intro ((al_below w _).trans (h1.mono (al_below w _).size)) (HCB.out _ w1 h1).1); obtain ⟨c0, c1, c2, c3, c4⟩ := Box.code (nm := nm) (dom := dom) (HCB.out _ w1 h1).1)
      | (go_at_call 20; refine (HSM.out w1 HB1.out.1).mono ?_; rintro e w2 ⟨rfl, h2⟩))
    go_ret
    exact ⟨rfl, HB1.out.1.trans (h2.mono HB1.out.1.size)⟩
  have hd : decide (24 < h.length) = false := decide_eq_false (by omega)
  have hd2 : decide (24 < (h.length : Int)) = false := decide_eq_false (by omega)
  have hd3 : decide (40 < live.length) = false := decide_eq_false (by omega)
  have hd4 : decide (40 < (live.length : Int)) = false := decide_eq_false (by omega)
  replace HUO := Lib.hid (HUO.out (by omega))
  replace HUR := Lib.hid (HUR.out (by omega) (by omega) (by omega))
  have HL24 := Lib.hid hh24
  have HL40 := Lib.hid hl40
  clear hk12 hl8 hh24 hl40
  have heu : (eu == eu) = true := by simp
  go_enter Tryz.func4, Tryz.ntmps4
  go_wp2_with (first
    | (go_at_call 9; refine (HSA.out _ (al_below w _)).mono ?_; rintro e w1 ⟨rfl, h1⟩; have HB1 := Lib.hid (And.intro ((al_below w _).trans (h1.mono (al_below w _).size)) (HCB.out _ w1 h1).1); obtain ⟨c0, c1, c2, c3, c4⟩ := Box.code (nm := nm) (dom := dom) (HCB.out _ w1 h1).1)
    | (go_at_call 20; refine (HSM.out w1 HB1.out.1).mono ?_; rintro e w2 ⟨rfl, h2⟩; have HB2 := Lib.hid (And.intro (HB1.out.1.trans (h2.mono HB1.out.1.size)) (HB1.out.2.below h2)); obtain ⟨c0, c1, c2, c3, c4⟩ := Box.code (nm := nm) (dom := dom) HB2.out.2)
    | (go_at_call 21; refine (HUO.out w2 HB2.out.1).mono ?_; rintro e w3 ⟨v1, rfl, h3, h4⟩; have H3 := Lib.hid (And.intro h3 h4); have HB3 := Lib.hid (And.intro (HB2.out.1.trans ((h3.below_of h4).mono HB2.out.1.size)) (HB2.out.2.below (h3.below_of h4))); obtain ⟨a1, q1, rfl⟩ := ownAt_slice h4; obtain ⟨c0, c1, c2, c3, c4⟩ := Box.code (nm := nm) (dom := dom) HB3.out.2)
    | (go_at_call 22; refine (HUR.out w3 HB3.out.1).mono ?_; rintro e w4 ⟨v2, rfl, h5, h6⟩; have H4 := Lib.hid (And.intro h5 h6); have HB4 := Lib.hid (HB3.out.1.trans ((h5.below_of h6).mono HB3.out.1.size)); obtain ⟨a2, q2, rfl⟩ := ownAt_slice h6))
  have hR40 : R.length ≤ 40 := Nat.le_trans HRN.out (by have := HL40.out; omega)
  have hb34 := H4.out.1.below_of H4.out.2
  have H41 := Lib.hid (H3.out.2.below hb34)
  clear h3 h4 h5 h6 hb34 c0 c1 c2 c3 c4
  go_loopw [12] (fun i wr => UlL R w4 i wr) (fun i _ => R.length - (intOf i).toNat)
  case atStart => exact ⟨⟨0, Nat.zero_le _, rfl, rfl⟩⟩
  case round =>
    obtain ⟨k, hk, rfl, rfl⟩ := hrel.st
    clear hrel
    have hk40 : (k : Int) ≤ 40 := by omega
    by_cases hin : k < R.length
    · have hid : decide ((k : Int) < (R.length : Int)) = true := decide_eq_true (by omega)
      have hwk : IntKind.i64.wrap ((k : Int) + 1) = (k : Int) + 1 := IntWalk.i64_in _ (by omega)
      obtain ⟨u, hu⟩ : ∃ u, R[k]? = some u := ⟨_, List.getElem?_eq_getElem hin⟩
      obtain ⟨x, rfl, hxl, hxf⟩ := HGO.out u (List.mem_of_getElem? hu)
      obtain ⟨g, cg, e, hc⟩ := ownAt_cells H41.out (by omega)
      cases e
      have e0 := hc k _ (intsV_at hu)
      obtain ⟨ao', cp', e', -, -, hrow⟩ := HHV.out wr HB4.out
      obtain ⟨b, off, rfl, -, hcb⟩ := hrow (by rw [boolsV_len]; omega)
      rw [boolsV_len] at e'
      cases e'
      have e1 := hcb x (.bool false) (by unfold boolsV; rw [List.getElem?_map, hxf]; rfl)
      have hx0 : decide ((x : Int) < 0) = false := decide_eq_false (by omega)
      have hx1 : decide (h.length ≤ x) = false := decide_eq_false (by omega)
      have hx24 : (x : Int) ≤ 24 := by have := HL24.out; omega
      clear hc hcb hrow hu hxf
      go_wp2
      go_roundw
      case rel => exact ⟨⟨k + 1, hin, by push_cast; rfl, rfl⟩⟩
      case measure => simp only [intOf]; omega
    · have hid : decide ((k : Int) < (R.length : Int)) = false := decide_eq_false (by omega)
      have HSI := Lib.hid (same41_any (.slice a1 R.length q1) (.slice a2 R.length q2) R R wr (ints_own H41.out) (ints_own H4.out.2) (by omega))
      rw [decide_eq_true rfl] at HSI
      go_wp2_with (go_at_call 14; refine HSI.out.mono ?_; rintro e w5 ⟨rfl, h7⟩)
      go_ret
      exact ⟨rfl, HB4.out.trans (h7.mono HB4.out.size)⟩
end Go.Proofs.YteikbikopgabjaaGreatDoor
end
