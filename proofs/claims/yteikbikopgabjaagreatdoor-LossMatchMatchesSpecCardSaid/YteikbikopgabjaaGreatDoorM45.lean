import Derived.Test.YteikbikopgabjaaGreatDoorM44
import Derived.Test.YteikbikopgabjaaGreatDoorM17
import Derived.LaidMore
import Derived.OpenShut
import Derived.Stop.Joined
import Derived.SevenTiedAt
import Derived.Lib.LaidTab
import Derived.Test.YteikbikopgabjaaGreatDoorTie
import Derived.Test.YteikbikopgabjaaGreatDoorCards
import Derived.Test.YteikbikopgabjaaGreatDoorM02
import Derived.Test.YteikbikopgabjaaGreatDoorM15
/- Part 45 of a proof; the last part says what is proved. -/
section
namespace Go.Proofs.YteikbikopgabjaaGreatDoor
open Go.RowKit Go.Sha Go.Sl Go.GF Go.Vol Go.Loss
theorem rowsO_block {W : World} {b n cap : Nat} {c : Array Value} {t : TypeId} (h : W.heap[b]? = some (.cells c t (0, 0))) (hn : n ≤ maxLen) : RowsO W (.slice (some ⟨b, 0, none⟩) n cap) n c.toList :=
  ⟨_, _, rfl, hn, fun _ => ⟨b, 0, rfl, (Array.getElem?_eq_some_iff.1 h).1, fun j u hu => by rw [Nat.zero_add, cells_at h]; rwa [Array.getElem?_toList] at hu⟩⟩
def sA (b : Nat) : List ElC := [(⟨0, 0, 0, [(4, 2), (7, 3)]⟩, .slice (some ⟨b, 0, none⟩) 2 2)]
def sB (b : Nat) : List ElC := [(⟨5, 0, 0, [(4, 2)]⟩, .slice (some ⟨b, 0, none⟩) 1 1)]
theorem san_valid : validS sanA sanB := by
  unfold validS sanA sanB
  simp [validC, okC, validM]
theorem san_good (a b : Nat) : GoodP (sA a) (sB b) sanI := by
  refine ⟨⟨by simp [sA], by simp [sB], by simp [sanI], fun x hx => ?_, fun x hx => ?_⟩, san_valid⟩
  · unfold sA at hx; rw [List.mem_singleton.1 hx]; simp
  · unfold sB at hx; rw [List.mem_singleton.1 hx]; simp
structure SanA (w : World) (n : Nat) (W : World) : Prop where
  bl : Below w.heap.size w W
  a : CntL W (.slice (some ⟨n + 1, 0, none⟩) 1 1) (sA n)
  b : CntL W (.slice (some ⟨n + 1 + 1 + 1, 0, none⟩) 1 1) (sB (n + 1 + 1))
  i : ItL W (.slice (some ⟨n + 1 + 1 + 1 + 1, 0, none⟩) 3 3) sanI
  x0 : W.cell? ⟨n + 1 + 1 + 1 + 1 + 1, 0, none⟩ = some (.slice (some ⟨n + 1, 0, none⟩) 1 1)
  x1 : W.cell? ⟨n + 1 + 1 + 1 + 1 + 1, 1, none⟩ = some (.slice (some ⟨n + 1 + 1 + 1, 0, none⟩) 1 1)
  x2 : W.cell? ⟨n + 1 + 1 + 1 + 1 + 1, 2, none⟩ = some (.slice (some ⟨n + 1 + 1 + 1 + 1, 0, none⟩) 3 3)
theorem san_args (w : World) (t1 t2 t3 t4 t5 t6 : TypeId) : SanA w w.heap.size ((((((w.alloc (.cells #[.int .i64 4, .int .i64 2, .int .i64 7, .int .i64 3] t1)).alloc (.cells #[.int .i64 0, .int .i64 0, .int .i64 0, .slice (some ⟨w.heap.size, 0, none⟩) 2 2] t2)).alloc (.cells #[.int .i64 4, .int .i64 2] t3)).alloc
    (.cells #[.int .i64 5, .int .i64 0, .int .i64 0, .slice (some ⟨w.heap.size + 1 + 1, 0, none⟩) 1 1] t4)).alloc (.cells #[.int .u8 1, .bool false, .int .u8 2, .bool true, .int .u8 3, .bool false] t5)).alloc
    (.cells #[.slice (some ⟨w.heap.size + 1, 0, none⟩) 1 1, .slice (some ⟨w.heap.size + 1 + 1 + 1, 0, none⟩) 1 1, .slice (some ⟨w.heap.size + 1 + 1 + 1 + 1, 0, none⟩) 3 3] t6)) := by
  have h := ((((((Sat.old w).alloc (.cells #[.int .i64 4, .int .i64 2, .int .i64 7, .int .i64 3] t1)).alloc (.cells #[.int .i64 0, .int .i64 0, .int .i64 0, .slice (some ⟨w.heap.size, 0, none⟩) 2 2] t2)).alloc (.cells #[.int .i64 4, .int .i64 2] t3)).alloc
    (.cells #[.int .i64 5, .int .i64 0, .int .i64 0, .slice (some ⟨w.heap.size + 1 + 1, 0, none⟩) 1 1] t4)).alloc (.cells #[.int .u8 1, .bool false, .int .u8 2, .bool true, .int .u8 3, .bool false] t5)).alloc
    (.cells #[.slice (some ⟨w.heap.size + 1, 0, none⟩) 1 1, .slice (some ⟨w.heap.size + 1 + 1 + 1, 0, none⟩) 1 1, .slice (some ⟨w.heap.size + 1 + 1 + 1 + 1, 0, none⟩) 3 3] t6)
  have hs := ((((((Same.refl w).alloc (.cells #[.int .i64 4, .int .i64 2, .int .i64 7, .int .i64 3] t1)).alloc (.cells #[.int .i64 0, .int .i64 0, .int .i64 0, .slice (some ⟨w.heap.size, 0, none⟩) 2 2] t2)).alloc (.cells #[.int .i64 4, .int .i64 2] t3)).alloc
    (.cells #[.int .i64 5, .int .i64 0, .int .i64 0, .slice (some ⟨w.heap.size + 1 + 1, 0, none⟩) 1 1] t4)).alloc (.cells #[.int .u8 1, .bool false, .int .u8 2, .bool true, .int .u8 3, .bool false] t5)).alloc
    (.cells #[.slice (some ⟨w.heap.size + 1, 0, none⟩) 1 1, .slice (some ⟨w.heap.size + 1 + 1 + 1, 0, none⟩) 1 1, .slice (some ⟨w.heap.size + 1 + 1 + 1 + 1, 0, none⟩) 3 3] t6)
  have e1 : ∀ (W : World) o, (W.alloc o).heap.size = W.heap.size + 1 := fun W o => by simp
  simp only [e1] at h
  generalize (((((w.alloc (.cells #[.int .i64 4, .int .i64 2, .int .i64 7, .int .i64 3] t1)).alloc (.cells #[.int .i64 0, .int .i64 0, .int .i64 0, .slice (some ⟨w.heap.size, 0, none⟩) 2 2] t2)).alloc (.cells #[.int .i64 4, .int .i64 2] t3)).alloc
    (.cells #[.int .i64 5, .int .i64 0, .int .i64 0, .slice (some ⟨w.heap.size + 1 + 1, 0, none⟩) 1 1] t4)).alloc (.cells #[.int .u8 1, .bool false, .int .u8 2, .bool true, .int .u8 3, .bool false] t5)).alloc
    (.cells #[.slice (some ⟨w.heap.size + 1, 0, none⟩) 1 1, .slice (some ⟨w.heap.size + 1 + 1 + 1, 0, none⟩) 1 1, .slice (some ⟨w.heap.size + 1 + 1 + 1 + 1, 0, none⟩) 3 3] t6) = W at h hs ⊢
  have h5 := h.right
  have h4 := h5.right
  have h3 := h4.right
  have h2 := h3.right
  have h1 := h2.right
  refine ⟨hs.below_of (P := emp) (h1.right.perm (emp_star _).symm), ⟨rowsO_block h2.block (by decide), fun x hx => ?_⟩, ⟨rowsO_block h4.block (by decide), fun x hx => ?_⟩, rowsO_block h5.block (by decide), ?_, ?_, ?_⟩
  · unfold sA at hx
    rw [List.mem_singleton.1 hx]
    exact rowsO_block h1.block (by decide)
  · unfold sB at hx
    rw [List.mem_singleton.1 hx]
    exact rowsO_block h3.block (by decide)
  · rw [cells_at h.block]; rfl
  · rw [cells_at h.block]; rfl
  · rw [cells_at h.block]; rfl
theorem rowI_block {W : World} {b n cap : Nat} {c : Array Value} {t : TypeId} (h : W.heap[b]? = some (.cells c t (0, 0))) (hn : c.size = n) (h1 : n ≤ cap) (h2 : cap ≤ maxLen) : RowI W (.slice (some ⟨b, 0, none⟩) n cap) c.toList := by
  refine ⟨_, _, by rw [Array.length_toList, hn], by rw [Array.length_toList, hn]; exact h1, h2, fun _ => ⟨b, 0, rfl, (Array.getElem?_eq_some_iff.1 h).1, fun j u hu => by rw [Nat.zero_add, cells_at h]; rwa [Array.getElem?_toList] at hu⟩⟩
structure SanC (w : World) (n : Nat) (W : World) : Prop where
  bl : Below w.heap.size w W
  p : RowsI W (.slice (some ⟨n + 1 + 1, 0, none⟩) 2 2) sanP
  h : RowI W (.slice (some ⟨n + 1 + 1 + 1 + 1, 0, none⟩) 5 5) (boolsV sanH)
  l : RowI W (.slice (some ⟨n + 1 + 1 + 1 + 1 + 1, 0, none⟩) 2 2) (intsV [1, 2])
theorem san_code (w : World) (t1 t2 t3 t4 t5 t6 : TypeId) : SanC w w.heap.size ((((((w.alloc (.cells #[.int .i64 1, .int .i64 1, .int .i64 1] t1)).alloc (.cells #[.int .i64 1, .int .i64 2, .int .i64 0] t2)).alloc (.cells #[.slice (some ⟨w.heap.size, 0, none⟩) 3 3, .slice (some ⟨w.heap.size + 1, 0, none⟩) 3 3] t3)).alloc
    (.cells #[.string ⟨#[]⟩, .int .i64 8, .int .i64 3, .slice (some ⟨w.heap.size + 1 + 1, 0, none⟩) 2 2, .int .i64 0] t4)).alloc (.cells #[.bool true, .bool false, .bool false, .bool false, .bool true] t5)).alloc (.cells #[.int .i64 1, .int .i64 2] t6)) := by
  have h := ((((((Sat.old w).alloc (.cells #[.int .i64 1, .int .i64 1, .int .i64 1] t1)).alloc (.cells #[.int .i64 1, .int .i64 2, .int .i64 0] t2)).alloc (.cells #[.slice (some ⟨w.heap.size, 0, none⟩) 3 3, .slice (some ⟨w.heap.size + 1, 0, none⟩) 3 3] t3)).alloc
    (.cells #[.string ⟨#[]⟩, .int .i64 8, .int .i64 3, .slice (some ⟨w.heap.size + 1 + 1, 0, none⟩) 2 2, .int .i64 0] t4)).alloc (.cells #[.bool true, .bool false, .bool false, .bool false, .bool true] t5)).alloc (.cells #[.int .i64 1, .int .i64 2] t6)
  have hs := ((((((Same.refl w).alloc (.cells #[.int .i64 1, .int .i64 1, .int .i64 1] t1)).alloc (.cells #[.int .i64 1, .int .i64 2, .int .i64 0] t2)).alloc (.cells #[.slice (some ⟨w.heap.size, 0, none⟩) 3 3, .slice (some ⟨w.heap.size + 1, 0, none⟩) 3 3] t3)).alloc
    (.cells #[.string ⟨#[]⟩, .int .i64 8, .int .i64 3, .slice (some ⟨w.heap.size + 1 + 1, 0, none⟩) 2 2, .int .i64 0] t4)).alloc (.cells #[.bool true, .bool false, .bool false, .bool false, .bool true] t5)).alloc (.cells #[.int .i64 1, .int .i64 2] t6)
  have e1 : ∀ (W : World) o, (W.alloc o).heap.size = W.heap.size + 1 := fun W o => by simp
  simp only [e1] at h
  generalize (((((w.alloc (.cells #[.int .i64 1, .int .i64 1, .int .i64 1] t1)).alloc (.cells #[.int .i64 1, .int .i64 2, .int .i64 0] t2)).alloc (.cells #[.slice (some ⟨w.heap.size, 0, none⟩) 3 3, .slice (some ⟨w.heap.size + 1, 0, none⟩) 3 3] t3)).alloc
    (.cells #[.string ⟨#[]⟩, .int .i64 8, .int .i64 3, .slice (some ⟨w.heap.size + 1 + 1, 0, none⟩) 2 2, .int .i64 0] t4)).alloc (.cells #[.bool true, .bool false, .bool false, .bool false, .bool true] t5)).alloc (.cells #[.int .i64 1, .int .i64 2] t6) = W at h hs ⊢
  have h5 := h.right
  have h4 := h5.right
  have h3 := h4.right
  have h2 := h3.right
  have h1 := h2.right
  refine ⟨hs.below_of (P := emp) (h1.right.perm (emp_star _).symm), ⟨_, rowI_block h3.block rfl (by decide) (by decide), rfl, fun i x hx => ?_⟩, rowI_block h5.block rfl (by decide) (by decide), rowI_block h.block rfl (by decide) (by decide)⟩
  match i, hx with
  | 0, hx =>
    cases hx
    exact ⟨[1, 1, 1], rfl, rowI_block h1.block rfl (by decide) (by decide)⟩
  | 1, hx =>
    cases hx
    exact ⟨[1, 2, 0], rfl, rowI_block h2.block rfl (by decide) (by decide)⟩
set_option maxRecDepth 20000 in
set_option maxHeartbeats 4000000 in
theorem sanity41_any (w : World) (hK : TabK w) (hT : TabF w) : Calls Tryz.prog 9 #[] w fun e w' => e = .returned (.bool true) ∧ Below w.heap.size w w' := by
  go_enter Tryz.func9, Tryz.ntmps9
  go_upto_region 2 with (fail)
  have HA := Lib.hid (san_args w 74 77 74 77 60 25)
  generalize ((((((w.alloc (.cells #[.int .i64 4, .int .i64 2, .int .i64 7, .int .i64 3] 74)).alloc (.cells #[.int .i64 0, .int .i64 0, .int .i64 0, .slice (some ⟨w.heap.size, 0, none⟩) 2 2] 77)).alloc (.cells #[.int .i64 4, .int .i64 2] 74)).alloc
    (.cells #[.int .i64 5, .int .i64 0, .int .i64 0, .slice (some ⟨w.heap.size + 1 + 1, 0, none⟩) 1 1] 77)).alloc (.cells #[.int .u8 1, .bool false, .int .u8 2, .bool true, .int .u8 3, .bool false] 60)).alloc
    (.cells #[.slice (some ⟨w.heap.size + 1, 0, none⟩) 1 1, .slice (some ⟨w.heap.size + 1 + 1 + 1, 0, none⟩) 1 1, .slice (some ⟨w.heap.size + 1 + 1 + 1 + 1, 0, none⟩) 3 3] 25)) = w1 at HA ⊢
  have HT := Lib.hid (hT.below HA.out.bl)
  have HBU := Lib.hid (build_any41 _ _ _ _ _ _ w1 HA.out.a HA.out.b HA.out.i (hK.below HA.out.bl))
  obtain ⟨x0, x1, x2⟩ : _ ∧ _ ∧ _ := ⟨HA.out.x0, HA.out.x1, HA.out.x2⟩
  have HBL := Lib.hid HA.out.bl
  have HSZ := Lib.hid (san_good w.heap.size (w.heap.size + 1 + 1))
  clear HA hK hT
  generalize w.heap.size = n at HBU HSZ x0 x1 x2 ⊢
  go_upto_region 3 with (go_at_call 10; refine HBU.out.mono ?_; rintro e w2 h2; rcases h2.out with ⟨-, q, p, rfl, h3⟩ | ⟨h3, -⟩; rotate_left; exact absurd HSZ.out h3; have HB := Lib.hid h3; clear h2 h3)
  clear x0 x1 x2 HBU HSZ
  obtain ⟨b, cap, at_, rb, kv, wb, hb, hsp, hsm, hst, -⟩ := HB.out.at_
  have hb2 := hsm.below_of hst
  have hb12 := hb.trans (hb2.mono hb.size)
  have HT2 := Lib.hid (HT.out.below hb12)
  have HB2 := Lib.hid (HBL.out.trans (hb12.mono HBL.out.size))
  have HSP := Lib.hid (show SpaceAt TNode TSp w2 q (spaceC sanA sanB) from hsp.below hb2)
  have HTR := Lib.hid (tab_read hst (by decide))
  have HCW := Lib.hid (san_code w2 TI TI 36 46 4 TI)
  have HUN := Lib.hid (unrec_any ⟨#[]⟩ 8 3 _ 0 sanP (by decide) _ _ sanH [1, 2] (by decide) _ (HT2.out.below HCW.out.bl) HCW.out.p HCW.out.h HCW.out.l)
  rw [san_unrB, san_unrL, show errU true = 0 from rfl] at HUN
  unfold codeV at HUN
  clear hb hsp hsm hst hb2 hb12 HT HBL HB
  go_upto_region 7 with (go_at_call 21; refine HUN.out.mono ?_; rintro e w3 ⟨v, rfl, h3, h4⟩)
  obtain ⟨gv, cv, rfl, hcv⟩ := ownAt_cells h4 (by decide)
  have d0 : w3.cell? ⟨gv, 0, none⟩ = some (.int .i64 2) := hcv 0 _ rfl
  have hb23 := HCW.out.bl.trans ((h3.below_of h4).mono HCW.out.bl.size)
  have HB3 := Lib.hid (HB2.out.trans (hb23.mono HB2.out.size))
  have HSP3 := Lib.hid (HSP.out.below hb23)
  have HTR3 := Lib.hid (HTR.out.below hb23)
  have HSM := Lib.hid (show SmallS (spaceC sanA sanB) from small_space (san_good 0 0))
  have HWF := Lib.hid (spaceC_wf san_valid)
  have HRP := Lib.hid (report_any q (spaceC sanA sanB) p b cap rb (chunksM sanI) w3 HSP3.out HWF.out HSM.out HTR3.out)
  rw [san_lossR] at HRP
  clear hcv h3 h4 hb23 HUN HCW HB2 HSP HTR HT2
  go_upto_region 8 with (go_at_call 12; refine HRP.out.mono ?_; rintro e w4 ⟨v2, rfl, h5, h6⟩)
  replace h6 : Sat w4 (ownAt TGn 19 v2 2 ([(false, 0, 4, 2), (true, 5, 4, 2)].flatMap gnE) * old w3) := h6
  obtain ⟨g2, cv2, rfl, hc2⟩ := ownAt_cells h6 (by decide)
  have r0 : w4.cell? ⟨g2, 19, none⟩ = some (.bool true) := hc2 _ _ (flat_at gnE_len [(false, 0, 4, 2), (true, 5, 4, 2)] 1 (true, 5, 4, 2) rfl 0 _ rfl)
  have r1 : w4.cell? ⟨g2, 20, none⟩ = some (.int .i64 5) := hc2 _ _ (flat_at gnE_len [(false, 0, 4, 2), (true, 5, 4, 2)] 1 (true, 5, 4, 2) rfl 1 _ rfl)
  have hb34 := h5.below_of h6
  have e0 : w4.cell? ⟨gv, 0, none⟩ = some (.int .i64 2) := (hb34.cell (p := ⟨gv, 0, none⟩) (World.block_lt_of_cell? _ _ d0)).trans d0
  have HB4 := Lib.hid (HB3.out.trans (hb34.mono HB3.out.size))
  have HWA := Lib.hid (waiting_any p b cap rb (chunksM sanI) w4 (HTR3.out.below hb34))
  rw [san_waitL] at HWA
  have HTA := Lib.hid (fun W (hb : Below w4.heap.size w4 W) => tally_any q (spaceC sanA sanB) p b cap rb (chunksM sanI) W (HSP3.out.below (hb34.trans (hb.mono hb34.size))) HWF.out HSM.out (HTR3.out.below (hb34.trans (hb.mono hb34.size))))
  clear hc2 h5 h6 hb34 d0 HRP HTR3 HSP3 HB3 HSM HWF
  go_wp2_with (first
    | (go_at_call 18; refine HWA.out.mono ?_; rintro e w5 ⟨v3, rfl, h5, h6⟩; have H5 := Lib.hid (And.intro h5 h6); obtain ⟨a3, c3, rfl⟩ := ownAt_slice (show Sat w5 (ownAt TD 16 v3 1 ([2].flatMap dgE) * old w4) from h6); clear h5 h6)
    | (go_at_call 15; refine (HTA.out w5 (H5.out.1.below_of H5.out.2)).mono ?_; rintro e w6 ⟨v4, rfl, h7, h8⟩; have H6 := Lib.hid (And.intro h7 h8); obtain ⟨a4, c4, rfl⟩ := ownAt_slice h8; clear h7 h8))
  go_ret
  exact ⟨rfl, HB4.out.trans (((H5.out.1.below_of H5.out.2).trans ((H6.out.1.below_of H6.out.2).mono (H5.out.1.below_of H5.out.2).size)).mono HB4.out.size)⟩
end Go.Proofs.YteikbikopgabjaaGreatDoor
end
section
namespace Go.Proofs.YteikbikopgabjaaGreatDoor
open Go.RowKit Go.Sha Go.Sl Go.GF Go.Vol Go.Loss
theorem ints_own {w : World} {v : Value} {l : List Int} {F : HProp} (h : Sat w (ownAt TI 1 v l.length (intsV l) * F)) : IntsAt w v l := by
  by_cases hl : l = []
  · obtain ⟨ao, cap, rfl⟩ := ownAt_slice h
    exact ⟨ao, cap, rfl, fun hn => absurd hl hn⟩
  · obtain ⟨g, cap, rfl, hc⟩ := ownAt_cells h (List.length_pos_iff.2 hl)
    exact ⟨_, cap, rfl, fun _ => ⟨g, 0, rfl, fun j x hx => by rw [Nat.zero_add, Nat.mul_one]; exact hc j _ (intsV_at hx)⟩⟩
end Go.Proofs.YteikbikopgabjaaGreatDoor
end
section
namespace Go.Sl
open Go Go.RowKit
section
variable {P : Program} {w : World} {t : TypeId} {cs : List Value}
theorem Rd.sliceM {e : TypeId} {sz : Nat} (hu : P.underlying t = some (.slice e)) (hsz : P.cellsOf e = sz) (h0 : 0 < sz) (h : Rd P w t cs) :
    ∃ ao len cap, cs = [.slice ao len cap] ∧ (len ≤ cap ∧ cap ≤ maxLen) ∧ (0 < len → ∃ b off, ao = some ⟨b, off, none⟩ ∧ ∀ i, i < len → ∃ es : List Value, es.length = sz ∧ Rd P w e es ∧ ∀ j u, es[j]? = some u → w.cell? ⟨b, off + i * sz + j, none⟩ = some u) := by
  obtain ⟨H, enc, fuel, d, ps, h⟩ := h
  cases fuel with
  | zero => simp [DataW.trod] at h
  | succ m =>
    rw [DataW.trod_step] at h
    have key : cs = [.slice none 0 0] ∨ ∃ a len cap, cs = [.slice (some a) len cap] ∧ len ≤ cap ∧ cap ≤ maxLen ∧ ∃ elems, (List.range len).mapM (fun i => (w.cells? 0 (a.add (i * P.cellsOf e)) (P.cellsOf e)).bind (DataW.trod enc P w 0 (fun _ => true) true m e)) = some elems := by
      unfold DataW.trodStep at h
      rw [hu] at h
      split at h
      all_goals first
        | (exfalso; simp at *; done)
        | skip
      all_goals first
        | (rename_i heq; cases heq; exact .inl rfl)
        | (rename_i e' a len cap heq
           cases heq
           simp only at h
           split at h
           · rename_i hc
             obtain ⟨elems, he, _⟩ := Option.bind_eq_some_iff.1 h
             exact .inr ⟨a, len, cap, rfl, hc.2.1, hc.2.2, elems, he⟩
           · cases h)
        | (rename_i heq; cases heq)
        | (cases h)
    rcases key with rfl | ⟨a, len, cap, rfl, hlc, hcm, elems, he⟩
    · exact ⟨none, 0, 0, rfl, ⟨Nat.le_refl _, Nat.zero_le _⟩, fun h => absurd h (Nat.lt_irrefl 0)⟩
    rw [hsz] at he
    refine ⟨some a, len, cap, rfl, ⟨hlc, hcm⟩, fun hl => ?_⟩
    have hat : ∀ i, i < len → ∃ es, w.cells? 0 (a.add (i * sz)) sz = some es ∧ ∃ y, DataW.trod enc P w 0 (fun _ => true) true m e es = some y := by
      intro i hi
      obtain ⟨y, hy⟩ := mapM_at he i (by simp [hi])
      rw [Option.bind_eq_some_iff] at hy
      obtain ⟨es, h3, h4⟩ := hy
      exact ⟨es, h3, y, h4⟩
    have hcell : ∀ (x : Addr) (es : List Value), w.cells? 0 x sz = some es → es.length = sz ∧ ∀ j u, es[j]? = some u → w.cell? (x.add j) = some u := by
      intro x es hx
      unfold World.cells? at hx
      rw [if_pos (Nat.zero_le _)] at hx
      have hlen : es.length = sz := by simpa using mapM_some_length hx
      refine ⟨hlen, fun j u hu => ?_⟩
      have hj : j < sz := by rw [← hlen]; exact (List.getElem?_eq_some_iff.1 hu).1
      have := mapM_some_get hx j j (by simp [hj])
      rw [this]; exact hu
    obtain ⟨b, off, spot⟩ := a
    obtain ⟨es0, hc0, _⟩ := hat 0 hl
    obtain ⟨hl0, hcc⟩ := hcell _ _ hc0
    have hspot : spot = none := by
      have := hcc 0 _ (List.getElem?_eq_getElem (by omega))
      simpa [Addr.add] using World.cell?_spot this
    subst hspot
    refine ⟨b, off, rfl, fun i hi => ?_⟩
    obtain ⟨es, hc, y, hy⟩ := hat i hi
    obtain ⟨hl', hcc'⟩ := hcell _ _ hc
    refine ⟨es, hl', ⟨H, enc, m, y.1, y.2, hy⟩, fun j u hj => ?_⟩
    have := hcc' j u hj
    rw [Addr.add_mid, Addr.add_mid] at this
    exact this
end
end Go.Sl
namespace Go.Proofs.YteikbikopgabjaaGreatDoor
open Go.RowKit Go.GF Go.Sl Go.Vol Go.Sha
theorem trod_rd {H : Type} {enc : TypeId × Value → H} {w : World} {t : TypeId} {v : Value} {d : DataW H} {ps : List MemPlace} (h : DataW.Trod enc Tryz.prog w 0 (fun _ => true) true t v d ps) : Rd Tryz.prog w t v.cells.toList := by
  obtain ⟨fuel, h⟩ := h
  exact ⟨H, enc, fuel, d, ps, h⟩
theorem tabG : Tryz.prog.globalNamed "solvent/field.fields" = some 3 := by kernel_rfl
theorem tabT : (Tryz.prog.globals[3]?).map (·.type) = some 241 := by kernel_rfl
theorem trod_str {H : Type} {enc : TypeId × Value → H} {P : Program} {w : World} {sp : Nat → Bool} {held : Bool} {base fuel : Nat} {t : TypeId} {fs : Array Field} {cs : List Value} {ds : List (DataW H)} {p : List MemPlace} (hu : P.underlying t = some (.struct fs))
    (h : DataW.trod enc P w base sp held fuel t cs = some (.agg ds, p)) : ∃ m, cs.length = P.cellsOf t ∧ ∀ (j : Nat) (f : Field), fs.toList[j]? = some f → ∃ d q, ds[j]? = some d ∧ DataW.trod enc P w base sp held m f.type ((cs.drop f.offset).take (P.cellsOf f.type)) = some (d, q) := by
  cases fuel with
  | zero => simp [DataW.trod] at h
  | succ m =>
    simp only [DataW.trod, hu] at h
    split at h
    · rename_i hl
      obtain ⟨xs, hm, hx⟩ := Option.map_eq_some_iff.1 h
      simp only [Prod.mk.injEq, DataW.agg.injEq] at hx
      refine ⟨m, hl, fun j f hj => ?_⟩
      obtain ⟨b, hb, hf⟩ := Lib.mapM_at hm j f hj
      exact ⟨b.1, b.2, by rw [← hx.1, List.getElem?_map, hb]; rfl, hf⟩
    · cases h
theorem trod_arr {H : Type} {enc : TypeId × Value → H} {P : Program} {w : World} {sp : Nat → Bool} {held : Bool} {base fuel : Nat} {t e : TypeId} {n : Nat} {cs : List Value} {ds : List (DataW H)} {p : List MemPlace} (hu : P.underlying t = some (.array n e))
    (h : DataW.trod enc P w base sp held fuel t cs = some (.agg ds, p)) : ∃ m, cs.length = P.cellsOf t ∧ ∀ i : Nat, i < n → ∃ d q, ds[i]? = some d ∧ DataW.trod enc P w base sp held m e ((cs.drop (i * P.cellsOf e)).take (P.cellsOf e)) = some (d, q) := by
  cases fuel with
  | zero => simp [DataW.trod] at h
  | succ m =>
    simp only [DataW.trod, hu] at h
    split at h
    · rename_i hl
      obtain ⟨xs, hm, hx⟩ := Option.map_eq_some_iff.1 h
      simp only [Prod.mk.injEq, DataW.agg.injEq] at hx
      refine ⟨m, hl, fun i hi => ?_⟩
      obtain ⟨b, hb, hf⟩ := Lib.mapM_at hm i i (by simp [hi])
      exact ⟨b.1, b.2, by rw [← hx.1, List.getElem?_map, hb]; rfl, hf⟩
    · cases h
set_option maxRecDepth 40000 in
theorem trod_pair {H : Type} {enc : TypeId × Value → H} {w : World} {sp : Nat → Bool} {held : Bool} {base fuel : Nat} {cs : List Value} {a b : Int} {p : List MemPlace}
    (h : DataW.trod enc Tryz.prog w base sp held fuel 240 cs = some (.agg [.lit (.int .i64 a), .lit (.int .i64 b)], p)) : cs = [.int .i64 a, .int .i64 b] := by
  obtain ⟨m, hl, hf⟩ := trod_str Tryz.underlying240 h
  rw [show Tryz.prog.cellsOf 240 = 2 by kernel_rfl] at hl
  have k1 : Tryz.prog.cellsOf 3 = 1 := by kernel_rfl
  match cs, hl with
  | [x, y], _ =>
    obtain ⟨d0, q0, e0, t0⟩ := hf 0 _ rfl
    obtain ⟨d1, q1, e1, t1⟩ := hf 1 _ rfl
    simp only [k1, List.drop_zero, List.drop_succ_cons, List.take_succ_cons, List.take_zero] at t0 t1
    obtain ⟨z0, hc0, hd0, _⟩ := DataW.trod_int Tryz.underlying3 t0
    obtain ⟨z1, hc1, hd1, _⟩ := DataW.trod_int Tryz.underlying3 t1
    cases hd0
    cases hd1
    simp at e0 e1 hc0 hc1
    subst e0 e1 hc0 hc1
    rfl
def dsK : List (DataW Unit) := match (Rows.laid_solvent_solventref02_constants : DataW Unit) with | .agg l => l | _ => []
theorem dsK_is : (Rows.laid_solvent_solventref02_constants : DataW Unit) = .agg dsK := rfl
def okK (i : Nat) : Bool := match dsK[i]? with | some (.lit (.int .u32 n)) => n == ((kM i : Nat) : Int) | _ => false
theorem okK_all : ∀ i, i < 64 → okK i = true := by decide +kernel
theorem tabGK : Tryz.prog.globalNamed "solvent/solventref02.constants" = some 1 := by kernel_rfl
theorem tabTK : (Tryz.prog.globals[1]?).map (·.type) = some 221 := by kernel_rfl
end Go.Proofs.YteikbikopgabjaaGreatDoor
end
section
namespace Go.Proofs.YteikbikopgabjaaGreatDoor
open Go.RowKit Go.Sha Go.Sl Go.GF Go.Vol Go.Loss
theorem rows_at {α : Type} {w : World} {ao : Option Addr} {n cap k : Nat} {enc : α → List Value} (hk : ∀ x, (enc x).length = k) {l : List α} (h : RowsO w (.slice ao n cap) l.length (l.flatMap enc)) {i : Nat} {x : α} (hx : l[i]? = some x) : ∃ b off : Nat, ao = some ⟨b, off, none⟩ ∧ b < w.heap.size ∧ w.rangeAt b (off + i * k) (enc x) := by
  obtain ⟨ao', cap', e, _, h4⟩ := h
  obtain ⟨b, off, hb, hlt, hc⟩ := h4 (by have := (List.getElem?_eq_some_iff.1 hx).1; omega)
  simp only [Value.slice.injEq] at e
  refine ⟨b, off, e.1.trans hb, hlt, fun j v hv => ?_⟩
  have := hc _ _ (flat_at hk l i x hx j v hv)
  rwa [← Nat.add_assoc] at this
end Go.Proofs.YteikbikopgabjaaGreatDoor
end
section
namespace Go.Proofs.YteikbikopgabjaaGreatDoor
open Go.RowKit Go.Sha Go.Sl Go.GF Go.Vol Go.Loss
def CapOk (v : Value) : Prop := ∀ ao n cap, v = .slice ao n cap → n ≤ cap
end Go.Proofs.YteikbikopgabjaaGreatDoor
end
section
namespace Go.Proofs.YteikbikopgabjaaGreatDoor
open Go.RowKit Go.Sha Go.Sl Go.GF Go.Vol Go.Loss
theorem built_read {A B : List ElC} {l : List ItM} {w w' : World} {q p : Nat} (h : Built A B l w q p w') (hn : l.length ≤ 40) : ∃ b cap rb, SpaceAt TNode TSp w' q (spaceC (A.map Prod.fst) (B.map Prod.fst)) ∧ TabR w' p b cap rb (chunksM l) ∧ Below w.heap.size w w' := by
  obtain ⟨b, cap, at_, rb, kv, wb, hb, hsp, hsm, hst, -⟩ := h.at_
  have h2 := hsm.below_of hst
  exact ⟨b, cap, rb, hsp.below h2, tab_read hst (by rw [chunksM_len]; omega), hb.trans (h2.mono hb.size)⟩
def InBox (g : Nat) (va vb vi : Value) (W : World) : Prop := W.heap[g]? = some (.cells #[va, vb, vi] TIn41 (0, 0))
theorem InBox.lt {g : Nat} {va vb vi : Value} {W : World} (h : InBox g va vb vi W) : g < W.heap.size := (Array.getElem?_eq_some_iff.1 h).1
theorem InBox.below {g : Nat} {va vb vi : Value} {W W' : World} (h : InBox g va vb vi W) (hb : Below W.heap.size W W') : InBox g va vb vi W' := (hb.block g h.lt).trans h
theorem InBox.c0 {g : Nat} {va vb vi : Value} {W : World} (h : InBox g va vb vi W) : W.cell? ⟨g, 0, none⟩ = some va := by rw [cells_at h]; rfl
theorem InBox.c1 {g : Nat} {va vb vi : Value} {W : World} (h : InBox g va vb vi W) : W.cell? ⟨g, 1, none⟩ = some vb := by rw [cells_at h]; rfl
theorem InBox.c2 {g : Nat} {va vb vi : Value} {W : World} (h : InBox g va vb vi W) : W.cell? ⟨g, 2, none⟩ = some vi := by rw [cells_at h]; rfl
theorem inBox_alloc (w : World) (va vb vi : Value) : InBox w.heap.size va vb vi (w.alloc (.cells #[va, vb, vi] TIn41)) := ((Sat.old w).alloc (.cells #[va, vb, vi] TIn41)).block
theorem own_rows {w : World} {F : HProp} {T : TypeId} {k n : Nat} {v : Value} {L : List Value} (h : Sat w (ownAt T k v n L * F)) : RowsO w v n L := rowsO_own h
theorem IntsAt.below {w wr : World} {v : Value} {l : List Int} (h : IntsAt w v l) (hb : Below w.heap.size w wr) : IntsAt wr v l := IntsAt.row h hb
theorem own_ints {w : World} {v : Value} {l : List Int} {n : Nat} {F : HProp} (hn : l.length = n) (h : Sat w (ownAt TI 1 v n (intsV l) * F)) : IntsAt w v l := by
  subst hn
  exact ints_own h
end Go.Proofs.YteikbikopgabjaaGreatDoor
end
section
namespace Go.Proofs.YteikbikopgabjaaGreatDoor
open Go.RowKit Go.Sha Go.Sl Go.GF Go.Vol Go.Loss
set_option maxRecDepth 20000 in
theorem rd_mapping41 {w : World} {cs : List Value} (h : Rd Tryz.prog w 74 cs) : ∃ x, cs = mE x := by
  obtain ⟨hl, hf⟩ := Rd.struct Tryz.underlying74 h
  rw [show Tryz.prog.cellsOf 74 = 2 by kernel_rfl] at hl
  have k1 : Tryz.prog.cellsOf 3 = 1 := by kernel_rfl
  match cs, hl with
  | [a0, a1], _ =>
    simp only [List.mem_cons, List.not_mem_nil, or_false, forall_eq_or_imp, forall_eq, k1, List.drop_zero, List.drop_succ_cons, List.take_succ_cons, List.take_zero] at hf
    obtain ⟨h0, h1⟩ := hf
    obtain ⟨n0, e0, _⟩ := Rd.int Tryz.underlying3 h0
    obtain ⟨n1, e1, _⟩ := Rd.int Tryz.underlying3 h1
    refine ⟨(n0, n1), ?_⟩
    simp at e0 e1
    subst e0 e1
    rfl
theorem flat_cell41 {α : Type} {enc : α → List Value} {k : Nat} (hk : ∀ x, (enc x).length = k) (h0 : 0 < k) {l : List α} {w : World} {b off : Nat} (h : ∀ j x, l[j]? = some x → ∀ i u, (enc x)[i]? = some u → w.cell? ⟨b, off + j * k + i, none⟩ = some u) :
    ∀ j u, (l.flatMap enc)[j]? = some u → w.cell? ⟨b, off + j, none⟩ = some u := by
  intro j u hu
  have hlt := (List.getElem?_eq_some_iff.1 hu).1
  rw [Go.Vol.flat_len hk] at hlt
  have hq : j / k < l.length := Nat.div_lt_of_lt_mul (by rw [Nat.mul_comm]; exact hlt)
  obtain ⟨x, hx⟩ : ∃ x, l[j / k]? = some x := ⟨_, List.getElem?_eq_getElem hq⟩
  have hr : j % k < (enc x).length := by rw [hk]; exact Nat.mod_lt _ h0
  obtain ⟨u', hu'⟩ : ∃ u', (enc x)[j % k]? = some u' := ⟨_, List.getElem?_eq_getElem hr⟩
  have hfa := flat_at hk l _ x hx _ _ hu'
  have hjk : j / k * k + j % k = j := by rw [Nat.mul_comm]; exact Nat.div_add_mod _ _
  rw [hjk, hu] at hfa
  obtain rfl : u = u' := Option.some.inj hfa
  have := h _ x hx _ _ hu'
  rwa [Nat.add_assoc, hjk] at this
theorem rd_mappings41 {w : World} {cs : List Value} (h : Rd Tryz.prog w 75 cs) : ∃ v, ∃ l : List (Int × Int), cs = [v] ∧ RowsO w v l.length (l.flatMap mE) ∧ (∃ a n c, v = .slice a n c) := by
  obtain ⟨ao, len, cap, rfl, ⟨hlc, hm⟩, hc⟩ := Rd.sliceM (sz := 2) Tryz.underlying75 (by kernel_rfl) (by decide) h
  by_cases h0 : len = 0
  · subst h0
    exact ⟨_, [], rfl, ⟨ao, cap, rfl, Nat.zero_le _, fun h => absurd h (Nat.lt_irrefl _)⟩, _, _, _, rfl⟩
  · obtain ⟨b, off, rfl, hi⟩ := hc (by omega)
    obtain ⟨l, hl, hp⟩ := list_of (p := fun j (x : Int × Int) => ∀ i u, (mE x)[i]? = some u → w.cell? ⟨b, off + j * 2 + i, none⟩ = some u) len (by
      intro i hlt
      obtain ⟨es, _, hr, hcell⟩ := hi i hlt
      obtain ⟨x, rfl⟩ := rd_mapping41 hr
      exact ⟨x, hcell⟩)
    subst hl
    have hcell := flat_cell41 mE_len (by decide) hp
    refine ⟨_, l, rfl, ⟨some ⟨b, off, none⟩, cap, rfl, Nat.le_trans hlc hm, fun hn => ⟨b, off, rfl, ?_, hcell⟩⟩, _, _, _, rfl⟩
    obtain ⟨x, hx⟩ : ∃ x, l[0]? = some x := ⟨_, List.getElem?_eq_getElem hn⟩
    exact World.block_lt_of_cell? _ _ (hp 0 x hx 0 _ rfl)
set_option maxRecDepth 20000 in
theorem rd_content41 {w : World} {cs : List Value} (h : Rd Tryz.prog w 77 cs) : ∃ x : ElC, cs = cE x ∧ RowsO w x.2 x.1.maps.length (x.1.maps.flatMap mE) := by
  obtain ⟨hl, hf⟩ := Rd.struct Tryz.underlying77 h
  rw [show Tryz.prog.cellsOf 77 = 4 by kernel_rfl] at hl
  have k1 : Tryz.prog.cellsOf 3 = 1 := by kernel_rfl
  have k2 : Tryz.prog.cellsOf 75 = 1 := by kernel_rfl
  match cs, hl with
  | [a0, a1, a2, a3], _ =>
    simp only [List.mem_cons, List.not_mem_nil, or_false, forall_eq_or_imp, forall_eq, k1, k2, List.drop_zero, List.drop_succ_cons, List.take_succ_cons, List.take_zero] at hf
    obtain ⟨h0, h1, h2, h3⟩ := hf
    obtain ⟨n0, e0, _⟩ := Rd.int Tryz.underlying3 h0
    obtain ⟨n1, e1, _⟩ := Rd.int Tryz.underlying3 h1
    obtain ⟨n2, e2, _⟩ := Rd.int Tryz.underlying3 h2
    obtain ⟨v, l, e3, hr, _⟩ := rd_mappings41 h3
    simp at e0 e1 e2 e3
    subst e0 e1 e2 e3
    exact ⟨(⟨n0, n1, n2, l⟩, a3), rfl, hr⟩
theorem rd_contents41 {w : World} {cs : List Value} (h : Rd Tryz.prog w 22 cs) : ∃ v l, cs = [v] ∧ CntL w v l ∧ CapOk v := by
  obtain ⟨ao, len, cap, rfl, ⟨hlc, hm⟩, hc⟩ := Rd.sliceM (sz := 4) Tryz.underlying22 (by kernel_rfl) (by decide) h
  by_cases h0 : len = 0
  · subst h0
    exact ⟨_, [], rfl, ⟨⟨ao, cap, rfl, Nat.zero_le _, fun h => absurd h (Nat.lt_irrefl _)⟩, fun x hx => absurd hx (by simp)⟩, fun _ _ _ e => by cases e; exact hlc⟩
  · obtain ⟨b, off, rfl, hi⟩ := hc (by omega)
    obtain ⟨l, hl, hp⟩ := list_of (p := fun j (x : ElC) => (∀ i u, (cE x)[i]? = some u → w.cell? ⟨b, off + j * 4 + i, none⟩ = some u) ∧ RowsO w x.2 x.1.maps.length (x.1.maps.flatMap mE)) len (by
      intro i hlt
      obtain ⟨es, _, hr, hcell⟩ := hi i hlt
      obtain ⟨x, rfl, hx⟩ := rd_content41 hr
      exact ⟨x, hcell, hx⟩)
    subst hl
    have hcell := flat_cell41 cE_len (by decide) (fun j x hx => (hp j x hx).1)
    refine ⟨_, l, rfl, ⟨⟨some ⟨b, off, none⟩, cap, rfl, Nat.le_trans hlc hm, fun hn => ⟨b, off, rfl, ?_, hcell⟩⟩, fun x hx => ?_⟩, fun _ _ _ e => by cases e; exact hlc⟩
    · obtain ⟨x, hx⟩ : ∃ x, l[0]? = some x := ⟨_, List.getElem?_eq_getElem hn⟩
      exact World.block_lt_of_cell? _ _ ((hp 0 x hx).1 0 _ rfl)
    · obtain ⟨i, hi⟩ := List.mem_iff_getElem?.1 hx
      exact (hp i x hi).2
set_option maxRecDepth 20000 in
theorem rd_item41 {w : World} {cs : List Value} (h : Rd Tryz.prog w 60 cs) : ∃ x : ItM, cs = itE x := by
  obtain ⟨hl, hf⟩ := Rd.struct Tryz.underlying60 h
  rw [show Tryz.prog.cellsOf 60 = 2 by kernel_rfl] at hl
  have k1 : Tryz.prog.cellsOf 5 = 1 := by kernel_rfl
  have k2 : Tryz.prog.cellsOf 4 = 1 := by kernel_rfl
  match cs, hl with
  | [a0, a1], _ =>
    simp only [List.mem_cons, List.not_mem_nil, or_false, forall_eq_or_imp, forall_eq, k1, k2, List.drop_zero, List.drop_succ_cons, List.take_succ_cons, List.take_zero] at hf
    obtain ⟨h0, h1⟩ := hf
    obtain ⟨n0, e0, hr0⟩ := Rd.int Tryz.underlying5 h0
    obtain ⟨n1, e1⟩ := Rd.bool Tryz.underlying4 h1
    simp only [Lit.wf, Bool.and_eq_true, IntKind.min, IntKind.max, IntKind.bits, IntKind.signed] at hr0
    refine ⟨(UInt8.ofNat n0.toNat, n1), ?_⟩
    simp at e0 e1 hr0
    subst e0 e1
    unfold itE
    have : ((UInt8.ofNat n0.toNat).toNat : Int) = n0 := by
      rw [UInt8.toNat_ofNat']
      omega
    simp only [this]
theorem rd_items41 {w : World} {cs : List Value} (h : Rd Tryz.prog w 23 cs) : ∃ v l, cs = [v] ∧ ItL w v l := by
  obtain ⟨ao, len, cap, rfl, ⟨hlc, hm⟩, hc⟩ := Rd.sliceM (sz := 2) Tryz.underlying23 (by kernel_rfl) (by decide) h
  by_cases h0 : len = 0
  · subst h0
    exact ⟨_, [], rfl, ⟨ao, cap, rfl, Nat.zero_le _, fun h => absurd h (Nat.lt_irrefl _)⟩⟩
  · obtain ⟨b, off, rfl, hi⟩ := hc (by omega)
    obtain ⟨l, hl, hp⟩ := list_of (p := fun j (x : ItM) => ∀ i u, (itE x)[i]? = some u → w.cell? ⟨b, off + j * 2 + i, none⟩ = some u) len (by
      intro i hlt
      obtain ⟨es, _, hr, hcell⟩ := hi i hlt
      obtain ⟨x, rfl⟩ := rd_item41 hr
      exact ⟨x, hcell⟩)
    subst hl
    have hcell := flat_cell41 itE_len (by decide) hp
    refine ⟨_, l, rfl, ⟨some ⟨b, off, none⟩, cap, rfl, Nat.le_trans hlc hm, fun hn => ⟨b, off, rfl, ?_, hcell⟩⟩⟩
    obtain ⟨x, hx⟩ : ∃ x, l[0]? = some x := ⟨_, List.getElem?_eq_getElem hn⟩
    exact World.block_lt_of_cell? _ _ (hp 0 x hx 0 _ rfl)
set_option maxRecDepth 40000 in
theorem rd_in41 {w : World} {cs : List Value} (h : Rd Tryz.prog w 25 cs) : ∃ va vb vi A B l, cs = (#[va, vb, vi] : Array Value).toList ∧ CntL w va A ∧ CntL w vb B ∧ CapOk va ∧ CapOk vb ∧ ItL w vi l := by
  obtain ⟨hl, hf⟩ := Rd.struct Tryz.underlying25 h
  rw [show Tryz.prog.cellsOf 25 = 3 by kernel_rfl] at hl
  have k1 : Tryz.prog.cellsOf 22 = 1 := by kernel_rfl
  have k2 : Tryz.prog.cellsOf 23 = 1 := by kernel_rfl
  match cs, hl with
  | [a0, a1, a2], _ =>
    simp only [List.mem_cons, List.not_mem_nil, or_false, forall_eq_or_imp, forall_eq, k1, k2, List.drop_zero, List.drop_succ_cons, List.take_succ_cons, List.take_zero] at hf
    obtain ⟨h0, h1, h2⟩ := hf
    obtain ⟨va, A, e0, ha, ca⟩ := rd_contents41 h0
    obtain ⟨vb, B, e1, hb, cb⟩ := rd_contents41 h1
    obtain ⟨vi, l, e2, hi⟩ := rd_items41 h2
    simp at e0 e1 e2
    subst e0 e1 e2
    exact ⟨_, _, _, A, B, l, rfl, ha, hb, ca, cb, hi⟩
end Go.Proofs.YteikbikopgabjaaGreatDoor
end
