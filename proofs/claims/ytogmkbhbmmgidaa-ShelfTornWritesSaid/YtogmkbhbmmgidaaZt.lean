/- ShelfTornWrites: for every small configuration, place and two fillings, a write that the power failure tears leaves a prefix of the later content followed by the rest of the earlier one. -/
import Derived.Test.YtogmkbhbmmgidaaTb
import Derived.Test.YtogmkbhbmmgidaaSk
import Derived.Test.YtogmkbhbmmgidaaZl
import Derived.Test.YtogmkbhbmmgidaaRd
namespace Go.Proofs.Ytogmkbhbmmgidaa
open Go.RowKit Go.Sl Go.ChangeMaps Go.ChangeShapes Go.WideShapes Go.ChangeAt

theorem trod_rd {H : Type} {enc : TypeId × Value → H} {w : World} {t : TypeId} {v : Value} {d : DataW H} {ps : List MemPlace} (h : DataW.Trod enc Try.prog w 0 (fun _ => true) true t v d ps) : Rd Try.prog w t v.cells.toList := by
  obtain ⟨fuel, h⟩ := h
  exact ⟨H, enc, fuel, d, ps, h⟩
abbrev TTorn : TypeId := 55
abbrev tornA (c : CfgM) (a : PlaceM) (fa fb : UInt8) (pick : Int) : Array Value := #[.int .i64 c.disks, .int .i64 c.racks, .int .i64 c.rows, .int .i64 c.spare, .int .i64 c.log, .int .i64 c.image, .int .i64 a.disk, .int .i64 a.area, .int .i64 a.index, .int .u8 (fa.toNat : Int), .int .u8 (fb.toNat : Int), .int .i64 pick]
theorem torn_cells {w : World} {B : Nat} {c : CfgM} {a : PlaceM} {fa fb : UInt8} {pick : Int} {X : HProp} (h : Sat w (pts B (.cells (tornA c a fa fb pick) TTorn (0, 0)) * X)) :
    (w.cell? ⟨B, 0, none⟩ = some (.int .i64 c.disks) ∧ w.cell? ⟨B, 1, none⟩ = some (.int .i64 c.racks) ∧ w.cell? ⟨B, 2, none⟩ = some (.int .i64 c.rows) ∧ w.cell? ⟨B, 3, none⟩ = some (.int .i64 c.spare) ∧ w.cell? ⟨B, 4, none⟩ = some (.int .i64 c.log) ∧ w.cell? ⟨B, 5, none⟩ = some (.int .i64 c.image)) ∧
    (w.cell? ⟨B, 6, none⟩ = some (.int .i64 a.disk) ∧ w.cell? ⟨B, 7, none⟩ = some (.int .i64 a.area) ∧ w.cell? ⟨B, 8, none⟩ = some (.int .i64 a.index) ∧ w.cell? ⟨B, 9, none⟩ = some (.int .u8 (fa.toNat : Int)) ∧ w.cell? ⟨B, 10, none⟩ = some (.int .u8 (fb.toNat : Int)) ∧ w.cell? ⟨B, 11, none⟩ = some (.int .i64 pick)) ∧ B < w.heap.size := by
  have hb := cells_at h.block
  exact ⟨⟨hb 0, hb 1, hb 2, hb 3, hb 4, hb 5⟩, ⟨hb 6, hb 7, hb 8, hb 9, hb 10, hb 11⟩, h.lt⟩
theorem pl_cells {w : World} {B : Nat} {a : PlaceM} {X : HProp} (h : Sat w (pts B (.cells (plA a) TPl (0, 0)) * X)) :
    w.cell? ⟨B, 0, none⟩ = some (.int .i64 a.disk) ∧ w.cell? ⟨B, 1, none⟩ = some (.int .i64 a.area) ∧ w.cell? ⟨B, 2, none⟩ = some (.int .i64 a.index) ∧ B < w.heap.size := by
  have hb := cells_at h.block
  exact ⟨hb 0, hb 1, hb 2, h.lt⟩
theorem strB_append (a b : List UInt8) : strB a ++ strB b = strB (a ++ b) := by
  apply ByteArray.ext
  simp [strB]
theorem strB_extract (l : List UInt8) (i j : Nat) : (strB l).extract i j = strB ((l.drop i).take (j - i)) := by
  apply ByteArray.ext
  simp [strB]
def opT (f : UInt8) : OpN := ⟨0, ⟨0, 0, 0⟩, ⟨0, 0, 0⟩, 0, f, 64, []⟩
theorem opT_len (f : UInt8) : (opT f).text.length = 64 := by
  unfold OpN.text
  rw [List.length_map, List.length_range]; rfl

set_option maxRecDepth 100000 in
set_option maxHeartbeats 4000000 in
theorem torn_any (c : CfgM) (a : PlaceM) (fa fb : UInt8) (pick : Int) (w : World) :
    Calls Try.prog 5 #[.agg (tornA c a fa fb pick)] w fun e w' => e = .returned (.bool true) ∧ Below w.heap.size w w' := by
  have H1 := Lib.hid (And.intro ((Same.refl w).alloc (.cells (tornA c a fa fb pick) TTorn)) ((Sat.old w).alloc (.cells (tornA c a fa fb pick) TTorn)))
  go_enter Try.func5, Try.ntmps5
  go_upto_region 2 with (go_at_call 8; refine (sanity_any _ _ H1.out.2).mono ?_; rintro e w1 ⟨rfl, h2⟩; replace H1 := Lib.hid (And.intro (H1.out.1.trans h2.out.1) h2.out.2); clear h2)
  generalize w.heap.size = B0 at H1 ⊢
  obtain ⟨⟨a0, a1, a2, a3, a4, a5⟩, ⟨a6, a7, a8, a9, a10, a11⟩, al⟩ := torn_cells H1.out.2
  go_upto_region 3 with (fail)
  have H2 := Lib.hid (And.intro (H1.out.1.alloc (.cells (plA a) TPl)) ((H1.out.2.alloc (.cells (plA a) TPl)).perm (show _ = pts B0 (.cells (tornA c a fa fb pick) TTorn (0, 0)) * (pts w1.heap.size (.cells (plA a) TPl (0, 0)) * old w) from by ac_rfl)))
  clear H1 a0 a1 a2 a3 a4 a5 a6 a7 a8 a9 a10 a11 al
  generalize w1.alloc (.cells (plA a) TPl) = w2 at H2 ⊢
  generalize w1.heap.size = B1 at H2 ⊢
  have H1 := H2
  clear H2
  obtain ⟨⟨a0, a1, a2, a3, a4, a5⟩, ⟨a6, a7, a8, a9, a10, a11⟩, al⟩ := torn_cells H1.out.2; obtain ⟨p0, p1, p2, pl⟩ := pl_cells H1.out.2.right
  by_cases hsm : smallB c = true ∧ c.ok = true
  case neg =>
    have hno : smallB c = false ∨ 60 < 0 ∨ c.ok = false := by
      cases h1 : smallB c
      · exact .inl rfl
      · cases h2 : c.ok
        · exact .inr (.inr rfl)
        · exact absurd ⟨h1, h2⟩ hsm
    have HNO := Lib.hid hno
    clear hsm hno
    go_wp2_with (go_at_call 15; refine (built_no c (.slice none 0 0) 0 ⟨none, 0, rfl⟩ _ _ H1.out.2 HNO.out).mono ?_; rintro e w3 ⟨rfl, h2⟩; replace H1 := Lib.hid (And.intro (H1.out.1.trans h2.out.1) h2.out.2); clear h2)
    go_ret
    exact ⟨rfl, H1.out.1.below_of (H1.out.2.perm (show _ = pts B0 (.cells (tornA c a fa fb pick) TTorn (0, 0)) * pts B1 (.cells (plA a) TPl (0, 0)) * old w from by ac_rfl))⟩
  have HSM := Lib.hid hsm
  clear hsm
  go_upto_region 6 with (go_at_call 15; refine (built_nil c _ _ H1.out.2 HSM.out.1 HSM.out.2).mono ?_; rintro e w3 ⟨p, rfl, h2⟩; replace H1 := Lib.hid (And.intro (H1.out.1.trans h2.out.1) (h2.out.2.perm (show _ = pts B0 (.cells (tornA c a fa fb pick) TTorn (0, 0)) * (pts B1 (.cells (plA a) TPl (0, 0)) * (shelfAt SH p (ShelfM.new c) * old w)) from by ac_rfl))); clear h2)
  clear a0 a1 a2 a3 a4 a5 a6 a7 a8 a9 a10 a11 al p0 p1 p2 pl
  obtain ⟨⟨a0, a1, a2, a3, a4, a5⟩, ⟨a6, a7, a8, a9, a10, a11⟩, al⟩ := torn_cells H1.out.2; obtain ⟨p0, p1, p2, pl⟩ := pl_cells H1.out.2.right
  go_upto_region 7 with (go_at_call 24; refine (text_any (opT fa) (.slice none 0 0) _).mono ?_; rintro e w4 ⟨rfl, hb⟩; replace H1 := Lib.hid (And.intro (H1.out.1.below hb.out) (H1.out.2.below hb.out)); clear hb)
  clear a0 a1 a2 a3 a4 a5 a6 a7 a8 a9 a10 a11 al p0 p1 p2 pl
  obtain ⟨⟨a0, a1, a2, a3, a4, a5⟩, ⟨a6, a7, a8, a9, a10, a11⟩, al⟩ := torn_cells H1.out.2; obtain ⟨p0, p1, p2, pl⟩ := pl_cells H1.out.2.right
  go_upto_region 8 with (go_at_call 24; refine (text_any (opT fb) (.slice none 0 0) _).mono ?_; rintro e w5 ⟨rfl, hb⟩; replace H1 := Lib.hid (And.intro (H1.out.1.below hb.out) (H1.out.2.below hb.out)); clear hb)
  clear a0 a1 a2 a3 a4 a5 a6 a7 a8 a9 a10 a11 al p0 p1 p2 pl
  obtain ⟨⟨a0, a1, a2, a3, a4, a5⟩, ⟨a6, a7, a8, a9, a10, a11⟩, al⟩ := torn_cells H1.out.2; obtain ⟨p0, p1, p2, pl⟩ := pl_cells H1.out.2.right
  have hla := opT_len fa
  have hlb := opT_len fb
  generalize (opT fa).text = ta at hla ⊢
  generalize (opT fb).text = tb at hlb ⊢
  have HL := Lib.hid (And.intro hla hlb)
  clear hla hlb
  obtain ⟨k, hk⟩ : ∃ k, ((ShelfM.new c).write a ta).2 = k := ⟨_, rfl⟩
  have hw := st_write (p := p) (F := pts B0 (.cells (tornA c a fa fb pick) TTorn (0, 0)) * (pts B1 (.cells (plA a) TPl (0, 0)) * old w)) a ta (H1.out.2.perm (by ac_rfl)) rfl hk
  have HK := Lib.hid hk
  clear hk
  by_cases h0 : k = 0
  case neg =>
    have hkb : (k != 0) = true := by simp [h0]
    clear h0
    go_wp2_with (go_at_call 23; refine hw.mono ?_; rintro e w6 ⟨rfl, h2⟩; clear hw)
    go_ret
    exact ⟨rfl, (H1.out.1.trans h2.out.1).below_of (h2.out.2.perm (show _ = shelfAt SH p _ * pts B0 (.cells (tornA c a fa fb pick) TTorn (0, 0)) * pts B1 (.cells (plA a) TPl (0, 0)) * old w from by ac_rfl))⟩
  subst h0
  have hwfc := ok_wf HSM.out.2 (by have := small_bound HSM.out.1 HSM.out.2; omega)
  obtain ⟨t1, t2, t3⟩ := ShelfM.torn_law hwfc (new_wf hwfc) (a := a) HL.out.1 HL.out.2 HK.out pick (new_n hwfc)
  have HT := Lib.hid (And.intro t1 (And.intro t2 t3))
  clear t1 t2 t3 hwfc
  generalize hS1 : ((ShelfM.new c).write a ta).1 = S1 at hw HT
  go_upto_region 10 with (go_at_call 23; refine hw.mono ?_; rintro e w6 ⟨rfl, h2⟩; replace H1 := Lib.hid (And.intro (H1.out.1.trans h2.out.1) (h2.out.2.perm (show _ = pts B0 (.cells (tornA c a fa fb pick) TTorn (0, 0)) * (pts B1 (.cells (plA a) TPl (0, 0)) * (shelfAt SH p S1 * old w)) from by ac_rfl))); clear h2)
  clear hw hS1
  clear a0 a1 a2 a3 a4 a5 a6 a7 a8 a9 a10 a11 al p0 p1 p2 pl
  obtain ⟨⟨a0, a1, a2, a3, a4, a5⟩, ⟨a6, a7, a8, a9, a10, a11⟩, al⟩ := torn_cells H1.out.2; obtain ⟨p0, p1, p2, pl⟩ := pl_cells H1.out.2.right
  have hf := st_flush (p := p) (F := pts B0 (.cells (tornA c a fa fb pick) TTorn (0, 0)) * (pts B1 (.cells (plA a) TPl (0, 0)) * old w)) a.disk (H1.out.2.perm (by ac_rfl)) rfl HT.out.1
  generalize (S1.flush a.disk).1 = S2 at hf HT
  go_upto_region 11 with (go_at_call 19; refine hf.mono ?_; rintro e w7 ⟨rfl, h2⟩; replace H1 := Lib.hid (And.intro (H1.out.1.trans h2.out.1) (h2.out.2.perm (show _ = pts B0 (.cells (tornA c a fa fb pick) TTorn (0, 0)) * (pts B1 (.cells (plA a) TPl (0, 0)) * (shelfAt SH p S2 * old w)) from by ac_rfl))); clear h2)
  clear hf
  clear a0 a1 a2 a3 a4 a5 a6 a7 a8 a9 a10 a11 al p0 p1 p2 pl
  obtain ⟨⟨a0, a1, a2, a3, a4, a5⟩, ⟨a6, a7, a8, a9, a10, a11⟩, al⟩ := torn_cells H1.out.2; obtain ⟨p0, p1, p2, pl⟩ := pl_cells H1.out.2.right
  have hw := st_write (p := p) (F := pts B0 (.cells (tornA c a fa fb pick) TTorn (0, 0)) * (pts B1 (.cells (plA a) TPl (0, 0)) * old w)) a tb (H1.out.2.perm (by ac_rfl)) rfl HT.out.2.1
  generalize (S2.write a tb).1 = S3 at hw HT
  go_upto_region 12 with (go_at_call 23; refine hw.mono ?_; rintro e w8 ⟨rfl, h2⟩; replace H1 := Lib.hid (And.intro (H1.out.1.trans h2.out.1) (h2.out.2.perm (show _ = pts B0 (.cells (tornA c a fa fb pick) TTorn (0, 0)) * (pts B1 (.cells (plA a) TPl (0, 0)) * (shelfAt SH p S3 * old w)) from by ac_rfl))); clear h2)
  clear hw
  clear a0 a1 a2 a3 a4 a5 a6 a7 a8 a9 a10 a11 al p0 p1 p2 pl
  obtain ⟨⟨a0, a1, a2, a3, a4, a5⟩, ⟨a6, a7, a8, a9, a10, a11⟩, al⟩ := torn_cells H1.out.2; obtain ⟨p0, p1, p2, pl⟩ := pl_cells H1.out.2.right
  have hA := (H1.out.2.alloc (.cells #[.int .i64 pick] TInt)).perm (show _ = shelfAt SH p S3 * (pts w8.heap.size (.cells #[.int .i64 pick] TInt (0, 0)) * (pts B0 (.cells (tornA c a fa fb pick) TTorn (0, 0)) * (pts B1 (.cells (plA a) TPl (0, 0)) * old w))) from by ac_rfl)
  have hm := mount_any p S3 _ (.slice (some ⟨w8.heap.size, 0, none⟩) 1 1) [pick] _ hA (fun w' h => by
    refine ⟨_, _, rfl, Nat.le_refl _, fun _ => ⟨_, 0, rfl, fun j x hj => ?_⟩⟩
    match j, hj with
    | 0, hj => simp at hj; subst hj; exact cells_at h.block 0) (by simp)
  clear hA
  go_upto_region 13 with (go_at_call 17; refine hm.mono ?_; rintro e w9 ⟨rfl, h2⟩; replace H1 := Lib.hid (And.intro ((H1.out.1.alloc _).trans h2.out.1) (h2.out.2.perm (show _ = pts w8.heap.size (.cells #[.int .i64 pick] TInt (0, 0)) * (pts B0 (.cells (tornA c a fa fb pick) TTorn (0, 0)) * (pts B1 (.cells (plA a) TPl (0, 0)) * (shelfAt SH p (S3.mount [pick]) * old w))) from by ac_rfl)).right); clear h2)
  clear hm
  clear a0 a1 a2 a3 a4 a5 a6 a7 a8 a9 a10 a11 al p0 p1 p2 pl
  obtain ⟨⟨a0, a1, a2, a3, a4, a5⟩, ⟨a6, a7, a8, a9, a10, a11⟩, al⟩ := torn_cells H1.out.2; obtain ⟨p0, p1, p2, pl⟩ := pl_cells H1.out.2.right
  have hr := st_read (p := p) (F := pts B0 (.cells (tornA c a fa fb pick) TTorn (0, 0)) * (pts B1 (.cells (plA a) TPl (0, 0)) * old w)) a (H1.out.2.perm (by ac_rfl)) HT.out.2.2
  go_upto_region 14 with (go_at_call 22; refine hr.mono ?_; rintro e w10 ⟨rfl, h2⟩; replace H1 := Lib.hid (And.intro (H1.out.1.trans h2.out.1) (h2.out.2.perm (show _ = pts B0 (.cells (tornA c a fa fb pick) TTorn (0, 0)) * (pts B1 (.cells (plA a) TPl (0, 0)) * (shelfAt SH p (S3.mount [pick]) * old w)) from by ac_rfl))); clear h2)
  clear hr
  clear a0 a1 a2 a3 a4 a5 a6 a7 a8 a9 a10 a11 al p0 p1 p2 pl
  obtain ⟨⟨a0, a1, a2, a3, a4, a5⟩, ⟨a6, a7, a8, a9, a10, a11⟩, al⟩ := torn_cells H1.out.2; obtain ⟨p0, p1, p2, pl⟩ := pl_cells H1.out.2.right
  go_upto_region 15 with (fail)
  have hla := HL.out.1
  have hlb := HL.out.2
  have hm64 := DiskM.clamp_le pick
  have hmx : max 0 (min pick 64) = ((DiskM.clamp pick : Nat) : Int) := by unfold DiskM.clamp; omega
  rw [hmx]
  generalize DiskM.clamp pick = m at hm64 ⊢
  have hsa : (strB ta).size = 64 := by rw [strB_size, hla]
  have hsb : (strB tb).size = 64 := by rw [strB_size, hlb]
  have hxe : (strB (List.take m tb ++ List.drop m ta)) = (strB tb).extract 0 m ++ (strB ta).extract m 64 := by
    rw [strB_extract, strB_extract, strB_append, List.drop_zero, Nat.sub_zero, List.take_of_length_le (l := List.drop m ta) (by rw [List.length_drop]; omega)]
  rw [hxe]
  generalize strB ta = sa at hsa ⊢
  generalize strB tb = sb at hsb ⊢
  have hq : ((sb.extract 0 m ++ sa.extract m 64).toList == (sb.extract 0 m ++ sa.extract m 64).toList) = true := by simp
  have HF := Lib.hid H1
  clear hmx hla hlb hxe HL HT HK H1
  clear a0 a1 a2 a3 a4 a5 a6 a7 a8 a9 a10 a11 al p0 p1 p2 pl
  go_quiet (fail)
  go_wp2
  go_ret
  exact ⟨rfl, (HF.out.out.1.drewN _).below_of ((HF.out.out.2.drewN _).perm (show _ = pts B0 (.cells (tornA c a fa fb pick) TTorn (0, 0)) * pts B1 (.cells (plA a) TPl (0, 0)) * shelfAt SH p (S3.mount [pick]) * old w from by ac_rfl))⟩


theorem rd_u8 {w : World} {cs : List Value} (h : Rd Try.prog w TB cs) : ∃ f : UInt8, cs = [.int .u8 (f.toNat : Int)] := by
  obtain ⟨n, rfl, hw⟩ := Rd.int Try.underlying5 h
  have hb := bounds_u8 hw
  obtain ⟨m, rfl⟩ := Int.eq_ofNat_of_zero_le hb.1
  refine ⟨UInt8.ofNat m, ?_⟩
  have : (UInt8.ofNat m).toNat = m := by simp; omega
  rw [this]
set_option maxRecDepth 20000 in
theorem rd_cfg {w : World} {cs : List Value} (h : Rd Try.prog w TCfg cs) : ∃ c : CfgM, cs = cfgL c := by
  obtain ⟨hl, hf⟩ := Rd.struct Try.underlying23 h
  rw [show Try.prog.cellsOf TCfg = 6 by kernel_rfl] at hl
  have k1 : Try.prog.cellsOf 3 = 1 := by kernel_rfl
  match cs, hl with
  | [a0, a1, a2, a3, a4, a5], _ =>
    simp only [List.mem_cons, List.not_mem_nil, or_false, forall_eq_or_imp, forall_eq, k1, List.drop_zero, List.drop_succ_cons, List.take_succ_cons, List.take_zero] at hf
    obtain ⟨h0, h1, h2, h3, h4, h5⟩ := hf
    obtain ⟨n0, e0, _⟩ := Rd.int Try.underlying3 h0
    obtain ⟨n1, e1, _⟩ := Rd.int Try.underlying3 h1
    obtain ⟨n2, e2, _⟩ := Rd.int Try.underlying3 h2
    obtain ⟨n3, e3, _⟩ := Rd.int Try.underlying3 h3
    obtain ⟨n4, e4, _⟩ := Rd.int Try.underlying3 h4
    obtain ⟨n5, e5, _⟩ := Rd.int Try.underlying3 h5
    simp at e0 e1 e2 e3 e4 e5
    subst e0 e1 e2 e3 e4 e5
    exact ⟨⟨n0, n1, n2, n3, n4, n5⟩, rfl⟩
set_option maxRecDepth 20000 in
theorem rd_pl {w : World} {cs : List Value} (h : Rd Try.prog w TPl cs) : ∃ a : PlaceM, cs = (plA a).toList := by
  obtain ⟨hl, hf⟩ := Rd.struct Try.underlying25 h
  rw [show Try.prog.cellsOf TPl = 3 by kernel_rfl] at hl
  have k1 : Try.prog.cellsOf 3 = 1 := by kernel_rfl
  match cs, hl with
  | [a0, a1, a2], _ =>
    simp only [List.mem_cons, List.not_mem_nil, or_false, forall_eq_or_imp, forall_eq, k1, List.drop_zero, List.drop_succ_cons, List.take_succ_cons, List.take_zero] at hf
    obtain ⟨h0, h1, h2⟩ := hf
    obtain ⟨n0, e0, _⟩ := Rd.int Try.underlying3 h0
    obtain ⟨n1, e1, _⟩ := Rd.int Try.underlying3 h1
    obtain ⟨n2, e2, _⟩ := Rd.int Try.underlying3 h2
    simp at e0 e1 e2
    subst e0 e1 e2
    exact ⟨⟨n0, n1, n2⟩, rfl⟩
set_option maxRecDepth 20000 in
theorem rd_torn {w : World} {cs : List Value} (h : Rd Try.prog w TTorn cs) : ∃ c a fa fb pick, cs = (tornA c a fa fb pick).toList := by
  obtain ⟨hl, hf⟩ := Rd.struct Try.underlying55 h
  rw [show Try.prog.cellsOf TTorn = 12 by kernel_rfl] at hl
  have k1 : Try.prog.cellsOf 3 = 1 := by kernel_rfl
  have k2 : Try.prog.cellsOf 5 = 1 := by kernel_rfl
  have k3 : Try.prog.cellsOf TCfg = 6 := by kernel_rfl
  have k4 : Try.prog.cellsOf TPl = 3 := by kernel_rfl
  match cs, hl with
  | [a0, a1, a2, a3, a4, a5, a6, a7, a8, a9, a10, a11], _ =>
    simp only [List.mem_cons, List.not_mem_nil, or_false, forall_eq_or_imp, forall_eq, k1, k2, k3, k4, List.drop_zero, List.drop_succ_cons, List.take_succ_cons, List.take_zero] at hf
    obtain ⟨h0, h1, h2, h3, h4⟩ := hf
    obtain ⟨c, e0⟩ := rd_cfg h0
    obtain ⟨a, e1⟩ := rd_pl h1
    obtain ⟨fa, e2⟩ := rd_u8 h2
    obtain ⟨fb, e3⟩ := rd_u8 h3
    obtain ⟨n4, e4, _⟩ := Rd.int Try.underlying3 h4
    refine ⟨c, a, fa, fb, n4, ?_⟩
    simp [cfgL] at e0 e1 e2 e3 e4
    obtain ⟨rfl, rfl, rfl, rfl, rfl, rfl⟩ := e0
    obtain ⟨rfl, rfl, rfl⟩ := e1
    subst e2 e3 e4
    rfl

set_option maxRecDepth 100000 in
theorem shelfTornWrites_lifted (os : Os) (started : os.Started) (H : Type) (enc : TypeId × Value → H) :
    ReturnsInHanded {} Try.checked os 5 .any (Rows.shelfTornWritesSpec.pre6 enc Try.prog Try.f5 Rows.shelfTornWritesRow.domain false) (Rows.shelfTornWritesSpec.post enc Try.prog Try.f5 false true false false) := by
  refine returnsInHanded_of_change (C := Try.checked) law_own started (by kernel_rfl) Try.func5
    (ChangeSpec.witness6 (enc := enc) (C := Try.checked) false ⟨#[], #[.agg (tornA ⟨0, 0, 0, 0, 0, 0⟩ ⟨0, 0, 0⟩ 0 0 0)], []⟩ 8 (by kernel_rfl) (by kernel_rfl) (by kernel_rfl) (by kernel_rfl)) ?_
  intro W base args ds gs before hval0 hW _ _
  have hval : ∀ (j : Nat) t v, Try.f5.params[j]? = some t → args[j]? = some v → Value.okWide Try.prog W .any base t v := hval0
  have hW' := hW
  obtain ⟨p, q, hA0, hV, rfl, _, _⟩ := hW
  have hA : DataW.TrodAll enc Try.prog W 0 (fun _ => true) true Try.f5.params.toList args.toList ds p := hA0
  rw [Try.params5] at hA hval
  obtain ⟨w0, vs0, d0, ds0, p0, q0, hargs, rfl, rfl, h0, r0⟩ := trodAll_cons hA
  obtain ⟨rfl, rfl, rfl⟩ := trodAll_nil r0
  obtain rfl : args = #[w0] := by cases args; simp_all
  obtain ⟨rfl, rfl⟩ := trodVars_none hV
  obtain ⟨cs, rfl, _⟩ := okWide_struct Try.underlying55 (hval 0 _ w0 rfl rfl)
  obtain ⟨c, a, fa, fb, pick, e0⟩ := rd_torn (trod_rd h0)
  obtain rfl : cs = tornA c a fa fb pick := by apply Array.ext'; simpa [Value.cells] using e0
  refine (torn_any c a fa fb pick W).mono fun e W' ⟨he, hg⟩ => ?_
  subst he
  exact ⟨_, rfl, law_post (by kernel_rfl) rfl (of_decide_eq_true (by kernel_rfl)) rfl hW' hg⟩

theorem shelfTornWrites_holds : Rows.ShelfTornWritesSaid :=
  OpenClaim.holds_of_wide 5 Try.f5 rfl rfl rfl rfl rfl rfl rfl ⟨rfl, rfl, rfl, rfl, rfl⟩ rfl rfl rfl rfl rfl (by kernel_rfl) Try.func5 (by kernel_rfl)
    (of_decide_eq_true (by kernel_rfl)) (by unfold Func.isWrapper; first | (rw [if_pos (by decide +kernel)]; kernel_rfl) | (rw [if_neg (by decide +kernel)]; exact ⟨rfl, rfl⟩))
    (fun os started H enc _ => shelfTornWrites_lifted os started H enc)

end Go.Proofs.Ytogmkbhbmmgidaa
