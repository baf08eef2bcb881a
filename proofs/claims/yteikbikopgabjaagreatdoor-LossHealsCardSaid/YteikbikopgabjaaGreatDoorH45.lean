import Derived.Test.YteikbikopgabjaaGreatDoorH42
import Derived.Test.YteikbikopgabjaaGreatDoorH44
import Derived.Test.YteikbikopgabjaaGreatDoorH17
/- Part 45 of a proof; the last part says what is proved. -/
section
namespace Go.Loss
open Go.Key
theorem lk_del_none {α : Type} [DecidableEq α] (k k1 : α) : ∀ {l : KV α}, lk l k1 = none → lk (del l k) k1 = none
 | [], _ => rfl
 | (a, x) :: r, h => by
  unfold lk at h
  split at h
  ·cases h
  ·rename_i hne
   unfold del
   split
   ·exact h
   ·unfold lk
    rw [if_neg hne]
    exact lk_del_none k k1 h
end Go.Loss
namespace Go.Proofs.YteikbikopgabjaaGreatDoor
open Go.RowKit Go.Sha Go.Sl Go.GF Go.Vol Go.Loss
abbrev TIn41 : TypeId := 25
def rowK (i : Nat) : UK := if h : i < 4096 then ⟨(i, 0), ⟨h, Nat.zero_lt_succ 31⟩⟩ else zUK
theorem rowK_v {i : Nat} (h : i < 4096) : ukV (rowK i) = .agg #[.int .i64 (i : Int), .int .i64 0, .int .i64 0] := by
 unfold rowK ukV
 rw [dif_pos h]
 rfl
theorem rowK_row {i : Nat} (h : i < 4096) : (rowK i).1.1 = i := by unfold rowK; rw [dif_pos h]
def chI (i : Nat) (x : ItM) : ChM := ⟨x.1, x.2, if x.2 then zUK else rowK i⟩
def chunksM (l : List ItM) : List ChM := l.zipIdx.map fun q => chI q.2 q.1
theorem chunksM_len (l : List ItM) : (chunksM l).length = l.length := by unfold chunksM; simp
theorem chunksM_at {l : List ItM} {k : Nat} {x : ItM} (h : l[k]? = some x) : (chunksM l)[k]? = some (chI k x) := by
 unfold chunksM
 rw [List.getElem?_map, List.getElem?_zipIdx, h]
 simp
theorem chunksM_take {l : List ItM} {k : Nat} {x : ItM} (h : l[k]? = some x) : (chunksM l).take (k + 1) = (chunksM l).take k ++ [chI k x] := by
 rw [List.take_add_one, chunksM_at h]; rfl
def GoodP (A B : List ElC) (l : List ItM) : Prop := FewP A B l ∧ validS (A.map Prod.fst) (B.map Prod.fst)
structure Built (A B : List ElC) (l : List ItM) (w : World) (q p : Nat) (w' : World) : Prop where
 at_ : ∃ b cap at_ rb kv wb, Below w.heap.size w wb ∧ SpaceAt TNode TSp wb q (spaceC (A.map Prod.fst) (B.map Prod.fst)) ∧ Same wb w' ∧ Sat w' (tabS p b cap at_ rb (chunksM l) kv * old wb) ∧ ∀ key : UK, l.length ≤ key.1.1 → Go.Key.lk kv key = none
def BuiltO (A B : List ElC) (l : List ItM) (w : World) (e : Ending) (w' : World) : Prop :=
 (GoodP A B l ∧ ∃ q p, e = .returned (.tuple #[.pointer (some ⟨q, 0, none⟩), .pointer (some ⟨p, 0, none⟩), .bool true]) ∧ Built A B l w q p w') ∨
 (¬ GoodP A B l ∧ e = .returned (.tuple #[.pointer none, .pointer none, .bool false]) ∧ Below w.heap.size w w')
structure BdS (wb : World) (p at_ : Nat) (l : List ItM) (i : Value) (wr : World) : Prop where
 st : ∃ (k b cap : Nat) (rb : Nat → Nat) (kv : Go.Key.KV UK), k ≤ l.length ∧ i = .int .i64 (k : Int) ∧ Same wb wr ∧ Sat wr (tabS p b cap at_ rb ((chunksM l).take k) kv * old wb) ∧ ∀ key : UK, k ≤ key.1.1 → Go.Key.lk kv key = none
set_option maxRecDepth 20000 in
set_option maxHeartbeats 4000000 in
theorem build_any41 (va vb vi : Value) (A B : List ElC) (l : List ItM) (w : World) (hA : CntL w va A) (hB : CntL w vb B) (hI : ItL w vi l) (hK : TabK w) :
  Calls Tryz.prog 10 #[.agg #[va, vb, vi]] w fun e w' => Hid (BuiltO A B l w e w') := by
 have hab := al_below w (.cells #[va, vb, vi] TIn41)
 have HF := Lib.hid (few41_any va vb vi A B l (w.alloc (.cells #[va, vb, vi] TIn41)) (hA.below hab) (hB.below hab) (hI.below hab))
 have HBD := Lib.hid (fun W (hb : Below w.heap.size w W) (h : FewP A B l) => buildG_any va vb A B W (hA.below hb) (hB.below hb) (by have := h.1; omega) (by have := h.2.1; omega) h.2.2.2.1 h.2.2.2.2)
 have HIL := Lib.hid (fun W (hb : Below w.heap.size w W) => hI.below hb)
 have HK := Lib.hid (fun W (hb : Below w.heap.size w W) => hK.below hb)
 have hS := (Sat.old w).alloc (.cells #[va, vb, vi] TIn41)
 have HW0 := Lib.hid (And.intro hab hS)
 obtain ⟨ao, ac, rfl, -⟩ := id hA.row
 obtain ⟨bo, bc, rfl, -⟩ := id hB.row
 obtain ⟨io, ic, rfl, -⟩ := id hI
 clear hA hB hI hK hS hab
 by_cases hfew : FewP A B l
 rotate_left
 ·have HF2 := Lib.hid (show Calls Tryz.prog 30 #[.slice ao A.length ac, .slice bo B.length bc, .slice io l.length ic] (w.alloc (.cells #[.slice ao A.length ac, .slice bo B.length bc, .slice io l.length ic] TIn41)) (fun e w' => e = .returned (.bool false) ∧ w' = (w.alloc (.cells #[.slice ao A.length ac, .slice bo B.length bc, .slice io l.length ic] TIn41))) from HF.out.mono (fun e w' h => by
   rcases h.2 with ⟨-, h2⟩ | ⟨h2, -⟩
   ·exact absurd h2 hfew
   ·exact ⟨h2, h.1⟩))
  have HNG := Lib.hid (show ¬ GoodP A B l from fun h => hfew h.1)
  clear HF hfew
  go_enter Tryz.func10, Tryz.ntmps10
  go_upto_region 1 with (fail)
  generalize w.alloc (.cells #[.slice ao A.length ac, .slice bo B.length bc, .slice io l.length ic] TIn41) = w1 at HW0 HF2 ⊢
  have a0 : w1.cell? ⟨w.heap.size, 0, none⟩ = some (.slice ao A.length ac) := by rw [cells_at HW0.out.2.block]; rfl
  have a1 : w1.cell? ⟨w.heap.size, 1, none⟩ = some (.slice bo B.length bc) := by rw [cells_at HW0.out.2.block]; rfl
  have a2 : w1.cell? ⟨w.heap.size, 2, none⟩ = some (.slice io l.length ic) := by rw [cells_at HW0.out.2.block]; rfl
  go_wp2_with (go_at_call 30; refine HF2.out.mono ?_; rintro e w2 ⟨rfl, rfl⟩)
  go_ret3
  exact .inr ⟨HNG.out, rfl, HW0.out.1⟩
 ·have HF2 := Lib.hid (show Calls Tryz.prog 30 #[.slice ao A.length ac, .slice bo B.length bc, .slice io l.length ic] (w.alloc (.cells #[.slice ao A.length ac, .slice bo B.length bc, .slice io l.length ic] TIn41)) (fun e w' => e = .returned (.bool true) ∧ w' = (w.alloc (.cells #[.slice ao A.length ac, .slice bo B.length bc, .slice io l.length ic] TIn41))) from HF.out.mono (fun e w' h => by
   rcases h.2 with ⟨h2, -⟩ | ⟨-, h2⟩
   ·exact ⟨h2, h.1⟩
   ·exact absurd hfew h2))
  have HB2 := Lib.hid (fun W hb => HBD.out W hb hfew)
  have HFW := Lib.hid hfew
  clear HF hfew HBD
  go_enter Tryz.func10, Tryz.ntmps10
  go_upto_region 1 with (fail)
  generalize w.alloc (.cells #[.slice ao A.length ac, .slice bo B.length bc, .slice io l.length ic] TIn41) = w1 at HW0 HF2 ⊢
  have a0 : w1.cell? ⟨w.heap.size, 0, none⟩ = some (.slice ao A.length ac) := by rw [cells_at HW0.out.2.block]; rfl
  have a1 : w1.cell? ⟨w.heap.size, 1, none⟩ = some (.slice bo B.length bc) := by rw [cells_at HW0.out.2.block]; rfl
  have a2 : w1.cell? ⟨w.heap.size, 2, none⟩ = some (.slice io l.length ic) := by rw [cells_at HW0.out.2.block]; rfl
  go_upto_region 4 with (first
   | (go_at_call 30; refine HF2.out.mono ?_; rintro e w2 ⟨rfl, rfl⟩)
   | (go_at_call 31; refine (HB2.out _ HW0.out.1).mono ?_; rintro e w2 h2; rcases h2.out.2 with ⟨hvs, q, rfl, hsp⟩ | ⟨hvs, rfl⟩))
  rotate_left
  ·have HB3 := Lib.hid (HW0.out.1.trans (h2.out.1.mono HW0.out.1.size))
   have HNG := Lib.hid (show ¬ GoodP A B l from fun h => hvs h.2)
   go_wp2
   go_ret3
   exact .inr ⟨HNG.out, rfl, HB3.out⟩
  have HB3 := Lib.hid (And.intro (HW0.out.1.trans (h2.out.1.mono HW0.out.1.size)) (And.intro hsp (HW0.out.2.below h2.out.1)))
  have HGP := Lib.hid (show GoodP A B l from ⟨HFW.out, hvs⟩)
  clear h2 hsp hvs HB2 HF2 HW0 a0 a1 a2
  have HTN := Lib.hid (tnew_any w2)
  go_wp2_with (go_at_call 32; refine HTN.out.mono ?_; rintro e w3 ⟨p, at_, rfl, h3, h4⟩; have H3 := Lib.hid (And.intro h3 h4); clear h3 h4)
  have H0 := Lib.hid (show BdS w2 p at_ l (.int .i64 0) w3 from ⟨0, 0, 0, fun _ => 0, [], Nat.zero_le _, rfl, H3.out.1, H3.out.2, fun _ _ => rfl⟩)
  clear H3 HTN
  obtain ⟨gA, hgA⟩ : ∃ g, g = w.heap.size := ⟨_, rfl⟩
  have HWS := Lib.hid hgA
  rw [← hgA] at HB3 ⊢
  clear hgA
  go_loopw [8] (fun i wr => BdS w2 p at_ l i wr) (fun i _ => l.length - (intOf i).toNat)
  case atStart => exact H0.out
  case round =>
   clear H0
   obtain ⟨k, b, cap, rb, kv, hk, rfl, hsm, hst, hkv⟩ := hrel.st
   clear hrel
   have hb := hsm.below_of hst
   have HS := Lib.hid (And.intro hsm (And.intro hst hkv))
   have HBW := Lib.hid hb
   have hl40 := HFW.out.2.2.1
   have hk40 : (k : Int) ≤ 40 := by omega
   have hbx := HB3.out.2.2
   have hgl : gA < w2.heap.size := hbx.lt
   have a2 : wr.cell? ⟨gA, 2, none⟩ = some (.slice io l.length ic) := (hb.cell (p := ⟨gA, 2, none⟩) hgl).trans (by rw [cells_at hbx.block]; rfl)
   clear hsm hst hkv hb hbx
   by_cases hin : k < l.length
   ·have hid : decide ((k : Int) < (l.length : Int)) = true := decide_eq_true (by omega)
    have hwk : IntKind.i64.wrap ((k : Int) + 1) = (k : Int) + 1 := IntWalk.i64_in _ (by omega)
    obtain ⟨x, hx⟩ : ∃ x, l[k]? = some x := ⟨_, List.getElem?_eq_getElem hin⟩
    have hwb : Below w.heap.size w w2 := by have := HB3.out.1; rwa [HWS.out] at this
    obtain ⟨b0, off, rfl, hb0, i0, i1⟩ := it_cells (HIL.out w2 hwb) hx
    have HX := Lib.hid hx
    have HI2 := Lib.hid (And.intro hb0 (And.intro i0 i1))
    have HTK := Lib.hid (fun W (h : Below w2.heap.size w2 W) => HK.out W (hwb.trans (h.mono hwb.size)))
    have j0 : wr.cell? ⟨b0, off + k * 2, none⟩ = some (.int .u8 (x.1.toNat : Int)) := (HBW.out.cell (p := ⟨b0, off + k * 2, none⟩) hb0).trans i0
    have j1 : wr.cell? ⟨b0, off + k * 2 + 1, none⟩ = some (.bool x.2) := (HBW.out.cell (p := ⟨b0, off + k * 2 + 1, none⟩) hb0).trans i1
    have HU := Lib.hid (unit_any x.1 x.2 wr)
    unfold itemA at HU
    obtain ⟨us, hus⟩ : ∃ us, us = strL (unitL x.1) := ⟨_, rfl⟩
    obtain ⟨D, hD⟩ : ∃ D, D = digM (unitL x.1) := ⟨_, rfl⟩
    have HDG := Lib.hid (fun W (h : Below w2.heap.size w2 W) => digest_any (unitL x.1) (unitL_len x.1) W (HTK.out W h))
    have HDO := Lib.hid (And.intro (digM_size (unitL x.1)) (digM_one (unitL x.1)))
    have HAD := Lib.hid (fun F W hS (hn : ((chunksM l).take k).length ≤ 900) hlk => add_any41 p b cap at_ rb ((chunksM l).take k) kv x.1 (rowK k) F W hS hn hlk)
    rw [← hus] at HU HDG
    rw [← hD] at HDG HDO HAD
    clear hus hD hx i0 i1 hb0 hwb
    go_upto_region 13 with (first
     | (go_at_call 29; refine HU.out.mono ?_; rintro e w4 ⟨rfl, h4⟩; have HB4 := Lib.hid h4; clear h4)
     | (go_at_call 27; refine (HDG.out _ (HBW.out.trans (HB4.out.mono HBW.out.size))).mono ?_; rintro e w5 ⟨rfl, h5⟩; have HS5 := Lib.hid (show Same w2 w5 ∧ Sat w5 (tabS p b cap at_ rb ((chunksM l).take k) kv * old w2) from ⟨(HS.out.1.below HB4.out).below h5, (HS.out.2.1.below HB4.out).below h5⟩); have HA := Lib.hid (HS5.out.2.alloc (.cells zD TD)); clear h5 HB4)
     | ((with_reducible (refine wpList_alloc_zero ?_ TD ?_ _ (zeroD _) ?_)); rfl; rfl)
     | (refine wpList_store_blk (T := TD) (old := zD) (new := D) rfl rfl rfl rfl HA.out (infoD HDO.out.1) (by rw [HDO.out.1]; rfl) HDO.out.2 ?_; intro w6 h6))
    have HS6 := Lib.hid (And.intro ((HS5.out.1.alloc (.cells zD TD)).trans h6.out.1).drew h6.out.2.drew)
    simp only [Act.put, zq1, zq2, zq3]
    clear h6 HA HS5 a2 j0 j1 HU HDG w4
    obtain ⟨g9, hg9⟩ : ∃ g, g = w5.heap.size := ⟨_, rfl⟩
    rw [← hg9] at HS6 ⊢
    clear hg9
    have HSS := Lib.hid (show ∀ W X, Same w2 W → Sat W (pts g9 (.cells D TD (0, 0)) * (X * old w2)) → W.heap[g9]? = some (.cells D TD (0, 0)) ∧ W.cell? ⟨gA, 2, none⟩ = some (.slice (some ⟨b0, off, none⟩) l.length ic) ∧ W.cell? ⟨b0, off + k * 2, none⟩ = some (.int .u8 (x.1.toNat : Int)) ∧ W.cell? ⟨b0, off + k * 2 + 1, none⟩ = some (.bool x.2) from fun W X h1 h2 => by
     have hb := h1.below_of (h2.perm (star_assoc _ _ _).symm)
     have hbx := HB3.out.2.2
     exact ⟨h2.block, (hb.cell (p := ⟨gA, 2, none⟩) hgl).trans (by rw [cells_at hbx.block]; rfl), (hb.cell (p := ⟨b0, off + k * 2, none⟩) HI2.out.1).trans HI2.out.2.1, (hb.cell (p := ⟨b0, off + k * 2 + 1, none⟩) HI2.out.1).trans HI2.out.2.2⟩)
    have hS0 := HSS.out w6.drew _ HS6.out.1 HS6.out.2
    refine reg_begin (fun W => W.heap[g9]? = some (.cells D TD (0, 0)) ∧ W.cell? ⟨gA, 2, none⟩ = some (.slice (some ⟨b0, off, none⟩) l.length ic) ∧ W.cell? ⟨b0, off + k * 2, none⟩ = some (.int .u8 (x.1.toNat : Int)) ∧ W.cell? ⟨b0, off + k * 2 + 1, none⟩ = some (.bool x.2)) (by kernel_rfl) ?_
    generalize w6.drew = w7 at HS6 hS0 ⊢
    have hrk := rowK_v (i := k) (by omega)
    (apply reg_take 0 rfl rfl (by decide +kernel) rfl); (intro w' hw'; go_simp; rfl); exact hS0; simp only [zq1, zq2, zq3]
    refine reg_take 1 (v := .agg D) rfl rfl (by decide +kernel) rfl (fun w' h => exec_load_mid rfl rfl (run_loadVar_row (P := Tryz.prog) w' g9 TD TD D (0, 0) _ h.1 Tryz.underlying67 rfl (infoD HDO.out.1))) hS0 ?_; simp only [zq1, zq2, zq3]
    (apply reg_take 2 rfl rfl (by decide +kernel) rfl); (intro w' hw'; go_simp; rfl); exact hS0; simp only [zq1, zq2, zq3]
    refine reg_take 3 (v := .slice (some ⟨b0, off, none⟩) l.length ic) rfl rfl (by decide +kernel) rfl (fun w' h => exec_load_cell rfl rfl Tryz.underlying23 rfl h.2.1) hS0 ?_; simp only [zq1, zq2, zq3]
    (apply reg_take 4 rfl rfl (by decide +kernel) rfl); (intro w' hw'; go_simp; rfl); exact hS0; simp only [zq1, zq2, zq3]
    (apply reg_take 5 rfl rfl (by decide +kernel) rfl); (intro w' hw'; go_simp; rfl); exact hS0; simp only [zq1, zq2, zq3]
    (apply reg_take 6 rfl rfl (by decide +kernel) rfl); (intro w' hw'; go_simp; rfl); exact hS0; simp only [zq1, zq2, zq3]
    refine reg_take 7 (v := .int .u8 (x.1.toNat : Int)) rfl rfl (by decide +kernel) rfl (fun w' h => exec_load_cell rfl rfl Tryz.underlying5 rfl h.2.2.1) hS0 ?_; simp only [zq1, zq2, zq3]
    refine reg_take 8 (v := .int .u32 (x.1.toNat : Int)) rfl rfl (by decide +kernel) rfl (fun w' h => exec_convert rfl rfl (o_conv x.1.toNat (UInt8.toNat_lt x.1) w')) hS0 ?_; simp only [zq1, zq2, zq3]
    (apply reg_take 9 rfl rfl (by decide +kernel) rfl); (intro w' hw'; go_simp; rfl); exact hS0; simp only [zq1, zq2, zq3]
    (apply reg_take 10 rfl rfl (by decide +kernel) rfl); (intro w' hw'; go_simp; rfl); exact hS0; simp only [zq1, zq2, zq3]
    (apply reg_take 11 rfl rfl (by decide +kernel) rfl); (intro w' hw'; go_simp; rfl); exact hS0; simp only [zq1, zq2, zq3]
    have hlk : ((chunksM l).take k).length = k := by rw [List.length_take, chunksM_len]; omega
    have HLK := Lib.hid hlk
    refine reg_call 12 rfl rfl (by decide +kernel) rfl (f := 33) (args := #[.pointer (some ⟨p, 0, none⟩), .agg D, .int .u32 (x.1.toNat : Int), .agg #[.int .i64 (k : Int), .int .i64 0, .int .i64 0], .int .i64 0])
     (R := fun v w' => v = .tuple #[.int .i64 ((k : Int) + 1), .int .i64 0] ∧ Hid (∃ b' cap' rb', Same w2 w' ∧ Sat w' (pts g9 (.cells D TD (0, 0)) * (tabS p b' cap' at_ rb' ((chunksM l).take k ++ [⟨x.1, false, rowK k⟩]) (Go.Key.upd kv (rowK k) (.int .i64 ((k : Int) + 1))) * old w2)))) (by kernel_rfl) (by
      have h := HAD.out (pts g9 (.cells D TD (0, 0)) * old w2) w7 (HS6.out.2.perm (by ac_rfl)) (by rw [hlk]; omega) (HS.out.2.2 _ (by rw [rowK_row (by omega)]; exact Nat.le_refl _))
      rw [hrk, hlk] at h
      refine h.mono fun e w' h => ?_
      obtain ⟨rfl, h1, b', cap', rb', h2⟩ := h
      exact ⟨_, rfl, rfl, Lib.hid ⟨b', cap', rb', HS6.out.1.trans h1, h2.perm (by ac_rfl)⟩⟩) ?_
    rintro _ w8 ⟨rfl, hx8⟩
    obtain ⟨b', cap', rb', h8, h9⟩ := hx8.out
    replace hS0 := HSS.out w8 _ h8 h9
    refine ⟨hS0, ?_⟩
    simp only [zq1, zq2, zq3]
    (apply reg_take 13 rfl rfl (by decide +kernel) rfl); (intro w' hw'; go_simp; rfl); exact hS0; simp only [zq1, zq2, zq3]
    (apply reg_take 14 rfl rfl (by decide +kernel) rfl); (intro w' hw'; go_simp; rfl); exact hS0; simp only [zq1, zq2, zq3]
    (apply reg_take 15 rfl rfl (by decide +kernel) rfl); (intro w' hw'; go_simp; rfl); exact hS0; simp only [zq1, zq2, zq3]
    (apply reg_take 16 rfl rfl (by decide +kernel) rfl); (intro w' hw'; go_simp; rfl); exact hS0; simp only [zq1, zq2, zq3]
    (apply reg_take 17 rfl rfl (by decide +kernel) rfl); (intro w' hw'; go_simp; rfl); exact hS0; simp only [zq1, zq2, zq3]
    refine reg_done (by decide +kernel) ?_
    have HS8 := Lib.hid (And.intro h8 h9)
    obtain ⟨-, d2, d3, d4⟩ := hS0
    clear h8 h9 hx8 HAD hlk hrk HS6
    have hkey : ∀ key : UK, k + 1 ≤ key.1.1 → Go.Key.lk (Go.Key.upd kv (rowK k) (.int .i64 ((k : Int) + 1))) key = none := fun key hkr => by
     rw [Go.Key.lk_upd, if_neg (fun e => by rw [e, rowK_row (by omega)] at hkr; omega)]
     exact HS.out.2.2 key (by omega)
    have HKY := Lib.hid hkey
    have HTK1 := Lib.hid (chunksM_take HX.out)
    unfold chI at HTK1
    clear hkey HS HX HI2 HTK HDO HSS
    cases hxl : x.2 with
    | false =>
     rw [hxl] at d4 HTK1
     have HN := Lib.hid (show Same w2 w8 ∧ Sat w8 (tabS p b' cap' at_ rb' ((chunksM l).take (k + 1)) (Go.Key.upd kv (rowK k) (.int .i64 ((k : Int) + 1))) * old w2) from ⟨HS8.out.1, by rw [HTK1.out]; exact HS8.out.2.right⟩)
     clear HTK1
     go_wp2
     go_roundw
     case rel => exact ⟨⟨k + 1, b', cap', rb', _, hin, by push_cast; rfl, HN.out.1, HN.out.2, HKY.out⟩⟩
     case measure => simp only [intOf]; omega
    | true =>
     rw [hxl] at d4 HTK1
     have HLO := Lib.hid (lose_any p b' cap' at_ rb' ((chunksM l).take k ++ [⟨x.1, false, rowK k⟩]) (Go.Key.upd kv (rowK k) (.int .i64 ((k : Int) + 1))) k ⟨x.1, false, rowK k⟩ (by rw [List.getElem?_append_right (by rw [HLK.out]; exact Nat.le_refl _), HLK.out, Nat.sub_self]; rfl) (pts g9 (.cells D TD (0, 0)) * old w2) w8 (HS8.out.2.perm (by ac_rfl)) (by rw [List.length_append, HLK.out, List.length_singleton]; omega))
     have HST := Lib.hid (show ((chunksM l).take k ++ [(⟨x.1, false, rowK k⟩ : ChM)]).set k ⟨x.1, true, zUK⟩ = (chunksM l).take (k + 1) by
      rw [HTK1.out, List.set_append_right _ _ (by rw [HLK.out]; exact Nat.le_refl _), HLK.out, Nat.sub_self]
      rfl)
     go_wp2_with (go_at_call 24; refine HLO.out.mono ?_; rintro e w9 ⟨rfl, h9, h10⟩)
     rw [HST.out] at h10
     have HN := Lib.hid (show Same w2 w9 ∧ Sat w9 (tabS p b' cap' at_ rb' ((chunksM l).take (k + 1)) (leftM (Go.Key.upd kv (rowK k) (.int .i64 ((k : Int) + 1))) ⟨x.1, false, rowK k⟩) * old w2) from ⟨HS8.out.1.trans h9, (h10.perm (show _ = pts g9 (.cells D TD (0, 0)) * (tabS p b' cap' at_ rb' ((chunksM l).take (k + 1)) (leftM (Go.Key.upd kv (rowK k) (.int .i64 ((k : Int) + 1))) ⟨x.1, false, rowK k⟩) * old w2) by ac_rfl)).right⟩)
     clear h9 h10 HLO HST HTK1
     go_roundw
     case rel => exact ⟨⟨k + 1, b', cap', rb', _, hin, by push_cast; rfl, HN.out.1, HN.out.2, fun key hkr => by
      show Go.Key.lk (if (false : Bool) = true then _ else Go.Key.del _ _) key = none
      rw [if_neg (by decide)]
      exact lk_del_none _ _ (HKY.out key hkr)⟩⟩
     case measure => simp only [intOf]; omega
   ·have hid : decide ((k : Int) < (l.length : Int)) = false := decide_eq_false (by omega)
    go_wp2
    go_ret3
    have hke : k = l.length := by omega
    subst hke
    have hst := HS.out.2.1
    rw [show (chunksM l).take l.length = chunksM l from List.take_of_length_le (by rw [chunksM_len]; exact Nat.le_refl _)] at hst
    exact .inl ⟨HGP.out, q, p, rfl, ⟨⟨b, cap, at_, rb, kv, w2, by have := HB3.out.1; rwa [HWS.out] at this, HB3.out.2.1, HS.out.1, hst, HS.out.2.2⟩⟩⟩
end Go.Proofs.YteikbikopgabjaaGreatDoor
end
section
namespace Go.Proofs.YteikbikopgabjaaGreatDoor
open Go.RowKit Go.Sha Go.Sl Go.GF Go.Vol Go.Loss
def sanH : List Bool := [true, false, false, false, true]
def sanP : List (List Int) := [[1, 1, 1], [1, 2, 0]]
theorem san_unrB : unrB 8 3 sanP sanH [1, 2] = true := by decide +kernel
theorem san_unrL : unrL 8 3 sanP sanH [1, 2] = [2] := by decide +kernel
def sanA : List ContM := [⟨0, 0, 0, [(4, 2), (7, 3)]⟩]
def sanB : List ContM := [⟨5, 0, 0, [(4, 2)]⟩]
def sanI : List ItM := [(1, false), (2, true), (3, false)]
theorem san_lossR : lossR (spaceC sanA sanB) (chunksM sanI) = [(false, 0, 4, 2), (true, 5, 4, 2)] := by decide +kernel
theorem san_waitL : waitL (chunksM sanI) = [2] := by decide +kernel
end Go.Proofs.YteikbikopgabjaaGreatDoor
end
section
namespace Go.Proofs.YteikbikopgabjaaGreatDoor
open Go.RowKit Go.Sha Go.Sl Go.GF Go.Vol Go.Loss
theorem find_me : ∀ {l : List PartM} {a : Int}, Incr l a → ∀ {x : PartM}, x ∈ l → l.find? (fun p => p.id == x.id) = some x
 | [], _, _, _, hx => by simp at hx
 | p :: r, a, h, x, hx => by
  rw [List.find?_cons]
  rcases List.mem_cons.1 hx with rfl | hx
  ·simp
  ·have hr : Incr r (p.id + 1) := h.2
   have := hr.le x hx
   rw [show (p.id == x.id) = false by simp; omega]
   exact find_me hr hx
def mapsN (x : ContM) : List (Nat × Int) := x.maps.map fun m => (m.1.toNat, m.2)
theorem okC_of {most : Int} : ∀ {z : Int} {l : List ContM}, validC most z l → ∀ x ∈ l, validM (-1) x.maps
 | _, [], _, x, hx => by simp at hx
 | _, y :: r, h, x, hx => by
  rcases List.mem_cons.1 hx with rfl | hx
  ·exact h.1.2.2.2
  ·exact okC_of h.2 x hx
theorem cont_space {a b : List ContM} (h : validS a b) {x : ContM} (hx : x ∈ a) : (contM (spaceC a b) x.id).1 = mapsN x := by
 have hf : volF (spaceC a b) x.id = some (toPart false x) := find_me (valid_parts h.1).1 (x := toPart false x) (List.mem_map_of_mem hx)
 have h3 : (toPart false x).m = addL x.maps := rfl
 have h1 : contM (spaceC a b) x.id = (items (addL x.maps), 0) := by unfold contM; rw [hf, ← h3]
 rw [h1, items_addL (okC_of h.1 x hx)]
 rfl
theorem image_space {a b : List ContM} (h : validS a b) {x : ContM} (hx : x ∈ b) : (imageM (spaceC a b) x.id).1 = mapsN x := by
 have hf : snapF (spaceC a b) x.id = some (toPart true x) := find_me (valid_parts h.2.1).1 (x := toPart true x) (List.mem_map_of_mem hx)
 have h3 : (toPart true x).m = addL x.maps := rfl
 have h1 : imageM (spaceC a b) x.id = (items (addL x.maps), 0) := by unfold imageM; rw [hf, ← h3]
 rw [h1, items_addL (okC_of h.2.1 x hx)]
 rfl
theorem small_space {A B : List ElC} {l : List ItM} (h : GoodP A B l) : SmallS (spaceC (A.map Prod.fst) (B.map Prod.fst)) := by
 obtain ⟨⟨h1, h2, h3, h4, h5⟩, hv⟩ := h
 refine ⟨by unfold spaceC; simp; omega, by unfold spaceC; simp; omega, fun p hp => ?_, fun p hp => ?_⟩
 ·obtain ⟨x, hx, rfl⟩ := List.mem_map.1 hp
  obtain ⟨y, hy, rfl⟩ := List.mem_map.1 hx
  have := h4 y hy
  rw [show (toPart false y.1).id = y.1.id from rfl, cont_space hv hx]
  unfold mapsN
  rw [List.length_map]; omega
 ·obtain ⟨x, hx, rfl⟩ := List.mem_map.1 hp
  obtain ⟨y, hy, rfl⟩ := List.mem_map.1 hx
  have := h5 y hy
  rw [show (toPart true y.1).id = y.1.id from rfl, image_space hv hx]
  unfold mapsN
  rw [List.length_map]; omega
end Go.Proofs.YteikbikopgabjaaGreatDoor
end
