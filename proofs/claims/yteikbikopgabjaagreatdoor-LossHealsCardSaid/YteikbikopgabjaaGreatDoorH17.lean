import Derived.Test.YteikbikopgabjaaGreatDoorH16
import Derived.Test.YteikbikopgabjaaGreatDoorH08
import Derived.Test.YteikbikopgabjaaGreatDoorH02
/- Part 17 of a proof; the last part says what is proved. -/
section
namespace Go.Proofs.YteikbikopgabjaaGreatDoor
open Go.RowKit Go.Sha Go.Sl Go.GF Go.Vol
abbrev TGn : TypeId := 79
abbrev TMp : TypeId := 74
abbrev GoneM := Bool × Int × Int × UInt8
def gnE (g : GoneM) : List Value := [.bool g.1, .int .i64 g.2.1, .int .i64 g.2.2.1] ++ (digM (unitL g.2.2.2)).toList
theorem gnE_len (g : GoneM) : (gnE g).length = 19 := by
 unfold gnE
 simp [digM_size]
def lostU (l : List ItM) (c : Int) : Option UInt8 := if 1 ≤ c then match l[(c - 1).toNat]? with | some (x, true) => some x | _ => none else none
def gonesC (f : Bool) (id : Int) (ms : List (Int × Int)) (l : List ItM) : List GoneM := ms.filterMap fun m => (lostU l m.2).map fun x => (f, id, m.1, x)
def partL (f : Bool) (A : List ContM) (l : List ItM) : List GoneM := A.flatMap fun c => gonesC f c.id c.maps l
theorem partL_succ (f : Bool) (A : List ContM) (l : List ItM) {i : Nat} {c : ContM} (h : A[i]? = some c) : partL f (A.take (i + 1)) l = partL f (A.take i) l ++ gonesC f c.id c.maps l := by
 unfold partL
 rw [List.take_add_one, h, List.flatMap_append]
 simp
theorem gonesC_succ (f : Bool) (id : Int) (ms : List (Int × Int)) (l : List ItM) {k : Nat} {m : Int × Int} (h : ms[k]? = some m) : gonesC f id (ms.take (k + 1)) l = gonesC f id (ms.take k) l ++ ((lostU l m.2).map fun x => (f, id, m.1, x)).toList := by
 unfold gonesC
 rw [List.take_add_one, h, List.filterMap_append]
 cases h : (lostU l m.2) <;> simp [h]
def ownG (v : Value) (L : List GoneM) : HProp := ownAt TGn 19 v L.length (L.flatMap gnE)
def zGn : Value := .agg (#[.bool false, .int .i64 0, .int .i64 0] ++ zD)
theorem info_gn : (Tryz.prog.info? TGn).map (fun i => (i.zero, i.size, i.bytes)) = some (some zGn, 19, 40) := by kernel_rfl
theorem info_ct : (Tryz.prog.info? 77).map (·.size) = some 4 := by kernel_rfl
theorem info_it : (Tryz.prog.info? TI41).map (·.size) = some 2 := by kernel_rfl
theorem load_item {w : World} {ib o : Nat} {x : UInt8} {b : Bool} (h0 : w.cell? ⟨ib, o, none⟩ = some (.int .u8 (x.toNat : Int))) (h1 : w.cell? ⟨ib, o + 1, none⟩ = some (.bool b)) : (loadVar TI41 ⟨ib, o, none⟩).run Tryz.prog w = .ok (.agg (itemA x b)) w :=
 run_loadVar_mid w ib o TI41 [.int .u8 (x.toNat : Int), .bool b] _ (fun j v hv => by
  match j, hv with
  | 0, hv => cases hv; exact h0
  | 1, hv => cases hv; exact h1) Tryz.underlying60 rfl (by kernel_rfl)
theorem exec_load_mid {a : Act} {o : Oper} {w : World} {ty : TypeId} {x : Operand} {b off : Nat} {v : Value} (ho : o.op = .load ty x) (hx : a.eval x = .pointer (some ⟨b, off, none⟩)) (h : (loadVar ty ⟨b, off, none⟩).run Tryz.prog w = .ok v w) :
  (execOp a.eval o).run Tryz.prog w = .ok (.value v) w := exec_load ho hx (by simp [Instr.loadAt, Instr.sureAddr, h])
theorem infoMp {c : Array Value} (h : c.size = 2) : (Tryz.prog.info? TMp).map (·.size) = some c.size := by rw [h]; kernel_rfl
def zMp : Array Value := #[.int .i64 0, .int .i64 0]
theorem zeroMp (w : World) : (zeroValue TMp).run Tryz.prog w = .ok (.agg zMp) w := by kernel_rfl
structure PaW (w0 : World) (g10 : Nat) (m : Int × Int) (v : Value) (L : List GoneM) (wr : World) : Prop where
 same : Same w0 wr
 sat : Sat wr (pts g10 (.cells #[.int .i64 m.1, .int .i64 m.2] TMp (0, 0)) * (ownG v L * old w0))
section
variable {w0 wr w' : World} {g10 : Nat} {m : Int × Int} {v : Value} {L : List GoneM}
theorem PaW.bel (h : PaW w0 g10 m v L wr) : Below w0.heap.size w0 wr := h.same.below_of (h.sat.perm (star_assoc _ _ _).symm)
theorem PaW.below (h : PaW w0 g10 m v L wr) (hb : Below wr.heap.size wr w') : PaW w0 g10 m v L w' := ⟨h.same.below hb, h.sat.below hb⟩
theorem PaW.drew (h : PaW w0 g10 m v L wr) : PaW w0 g10 m v L wr.drew := h.below (Below.refl _ _).drew
theorem PaW.c0 (h : PaW w0 g10 m v L wr) : wr.cell? ⟨g10, 0, none⟩ = some (.int .i64 m.1) := by rw [cells_at h.sat.block]; rfl
theorem PaW.c1 (h : PaW w0 g10 m v L wr) : wr.cell? ⟨g10, 1, none⟩ = some (.int .i64 m.2) := by rw [cells_at h.sat.block]; rfl
end
theorem lostU_lo {l : List ItM} {c : Int} (h : ¬ 1 ≤ c) : lostU l c = none := if_neg h
theorem lostU_hi {l : List ItM} {c : Int} (h : ¬ c ≤ (l.length : Int)) : lostU l c = none := by
 unfold lostU
 split
 ·rw [List.getElem?_eq_none (by omega)]
 ·rfl
theorem lostU_at {l : List ItM} {c : Int} {z : Nat} {x : UInt8} {b : Bool} (hz : c - 1 = (z : Int)) (hx : l[z]? = some (x, b)) : lostU l c = if b = true then some x else none := by
 unfold lostU
 rw [if_pos (by omega), hz, Int.toNat_natCast, hx]
 cases b <;> rfl
theorem arrK16 (g : Nat → Nat) : arrK .u8 16 g = #[.int .u8 (g 0 : Nat), .int .u8 (g 1 : Nat), .int .u8 (g 2 : Nat), .int .u8 (g 3 : Nat), .int .u8 (g 4 : Nat), .int .u8 (g 5 : Nat), .int .u8 (g 6 : Nat), .int .u8 (g 7 : Nat), .int .u8 (g 8 : Nat), .int .u8 (g 9 : Nat), .int .u8 (g 10 : Nat), .int .u8 (g 11 : Nat), .int .u8 (g 12 : Nat), .int .u8 (g 13 : Nat), .int .u8 (g 14 : Nat), .int .u8 (g 15 : Nat)] := rfl
theorem fold_fix {α : Type} (a b c z : α) (g0 g1 g2 g3 g4 g5 g6 g7 g8 g9 g10 g11 g12 g13 g14 g15 : α) : Array.foldl (fun cs x => cs.setIfInBounds (3 + x.snd) x.fst)
  #[a, b, c, z, z, z, z, z, z, z, z, z, z, z, z, z, z, z, z]
  ((#[g0, g1, g2, g3, g4, g5, g6, g7, g8, g9, g10, g11, g12, g13, g14, g15] : Array α).zipIdx 0) 0 16 = #[a, b, c] ++ #[g0, g1, g2, g3, g4, g5, g6, g7, g8, g9, g10, g11, g12, g13, g14, g15] := by
 simp [List.zipIdx]
theorem gone_build (g : Nat → Nat) (a b c : Value) (d : Array Value) (hd : d = arrK .u8 16 g) : Array.foldl (fun cs x => cs.setIfInBounds (3 + x.snd) x.fst)
  #[a, b, c, .int .u8 0, .int .u8 0, .int .u8 0, .int .u8 0, .int .u8 0, .int .u8 0, .int .u8 0, .int .u8 0, .int .u8 0, .int .u8 0, .int .u8 0, .int .u8 0, .int .u8 0, .int .u8 0, .int .u8 0, .int .u8 0]
  (d.zipIdx 0) 0 d.size = #[a, b, c] ++ d := by
 rw [show d.size = 16 from by rw [hd]; exact arrK_size _ _ _, hd, arrK16]
 rw [fold_fix]
theorem fold_all {α : Type} (a b c y1 y2 y3 z : α) (g0 g1 g2 g3 g4 g5 g6 g7 g8 g9 g10 g11 g12 g13 g14 g15 : α) : Array.foldl (fun cs x => cs.setIfInBounds x.snd x.fst)
  #[y1, y2, y3, z, z, z, z, z, z, z, z, z, z, z, z, z, z, z, z]
  ((#[a, b, c] ++ #[g0, g1, g2, g3, g4, g5, g6, g7, g8, g9, g10, g11, g12, g13, g14, g15] : Array α).zipIdx 0) 0 19 = #[a, b, c] ++ #[g0, g1, g2, g3, g4, g5, g6, g7, g8, g9, g10, g11, g12, g13, g14, g15] := by
 simp [List.zipIdx]
theorem gone_slice (g : Nat → Nat) (a b c : Value) (d : Array Value) (hd : d = arrK .u8 16 g) : Array.foldl (fun cs x => cs.setIfInBounds x.snd x.fst)
  #[.bool false, .int .i64 0, .int .i64 0, .int .u8 0, .int .u8 0, .int .u8 0, .int .u8 0, .int .u8 0, .int .u8 0, .int .u8 0, .int .u8 0, .int .u8 0, .int .u8 0, .int .u8 0, .int .u8 0, .int .u8 0, .int .u8 0, .int .u8 0, .int .u8 0]
  ((#[a, b, c] ++ d).zipIdx 0) 0 19 = #[a, b, c] ++ d := by
 rw [hd, arrK16]
 rw [fold_all]
theorem gonesC_len (f : Bool) (id : Int) (ms : List (Int × Int)) (l : List ItM) : (gonesC f id ms l).length ≤ ms.length := List.length_filterMap_le _ _
theorem partL_len (f : Bool) (l : List ItM) : ∀ A : List ContM, (∀ c ∈ A, c.maps.length ≤ 40) → (partL f A l).length ≤ 40 * A.length
 | [], _ => Nat.le_refl _
 | c :: A, h => by
  have h1 := partL_len f l A (fun y hy => h y (List.mem_cons_of_mem _ hy))
  have h2 := gonesC_len f c.id c.maps l
  have h3 := h c List.mem_cons_self
  have h4 : (partL f (c :: A) l).length = (gonesC f c.id c.maps l).length + (partL f A l).length := by unfold partL; rw [List.flatMap_cons, List.length_append]
  rw [List.length_cons]
  omega
theorem gnE_one (g : GoneM) : ∀ u ∈ gnE g, u.oneCell' = true := by
 intro u hu
 unfold gnE at hu
 rw [List.mem_append] at hu
 rcases hu with hu | hu
 ·simp at hu
  rcases hu with rfl | rfl | rfl <;> rfl
 ·exact digM_one _ u hu
structure PoS (w : World) (f : Bool) (A : List ElC) (l : List ItM) (v i : Value) (wr : World) : Prop where
 st : ∃ k : Nat, k ≤ A.length ∧ i = .int .i64 (k : Int) ∧ Same w wr ∧ Sat wr (ownG v (partL f ((A.map Prod.fst).take k) l) * old w)
structure PiS (w : World) (f : Bool) (c : ContM) (L0 : List GoneM) (l : List ItM) (v i : Value) (wr : World) : Prop where
 st : ∃ k : Nat, k ≤ c.maps.length ∧ i = .int .i64 (k : Int) ∧ Same w wr ∧ Sat wr (ownG v (L0 ++ gonesC f c.id (c.maps.take k) l) * old w)
set_option maxRecDepth 20000 in
set_option maxHeartbeats 4000000 in
theorem part_any (f : Bool) (va vi : Value) (A : List ElC) (l : List ItM) (w : World) (hA : CntL w va A) (hI : ItL w vi l) (hnA : A.length ≤ 12) (hmA : mapsOk A) (hnl : l.length ≤ 40) (hK : TabK w) :
  Calls Tryz.prog 36 #[.bool f, va, vi] w fun e w' => ∃ v, e = .returned v ∧ Same w w' ∧ Sat w' (ownG v (partL f (A.map Prod.fst) l) * old w) := by
 obtain ⟨i0, hi, hz0, hz1, hz2⟩ := info_parts info_gn
 obtain ⟨tc, htc, htcs⟩ := Option.map_eq_some_iff.1 info_ct
 obtain ⟨ti41, hti41, htis41⟩ := Option.map_eq_some_iff.1 info_it
 obtain ⟨ao, ac, rfl, -⟩ := id hA.row
 obtain ⟨io, ic, rfl, -⟩ := id hI
 have HA := Lib.hid (fun W (h : Below w.heap.size w W) => hA.below h)
 have HI := Lib.hid (fun W (h : Below w.heap.size w W) => RowsO.below hI h)
 have HTK := Lib.hid (fun W (h : Below w.heap.size w W) => hK.below h)
 have HMA := Lib.hid hmA
 clear hA hI hK hmA
 obtain ⟨nl, hnlq⟩ : ∃ n, n = l.length := ⟨_, rfl⟩
 rw [← hnlq] at hnl ⊢
 have HNL := Lib.hid hnlq
 clear hnlq
 have HN := Lib.hid (And.intro hnA hnl)
 have H0 := Lib.hid (show Sat w (ownG (.slice none 0 0) (partL f ((A.map Prod.fst).take 0) l) * old w) from ownAt_nil.2 (Sat.old w))
 clear hnA hnl
 go_enter Tryz.func36, Tryz.ntmps36
 go_wp2
 go_loopw [7, 8] (fun v i wr => PoS w f A l v i wr) (fun _ i _ => A.length - (intOf i).toNat)
 case atStart => exact ⟨⟨0, Nat.zero_le _, rfl, Same.refl _, H0.out⟩⟩
 case round =>
  clear H0
  obtain ⟨i, hi1, rfl, hsm, hst⟩ := hrel.st
  clear hrel
  have HS := Lib.hid (And.intro hsm hst)
  clear hsm hst
  have hi12 : (i : Int) ≤ 12 := by have := HN.out.1; omega
  by_cases hlt : i < A.length
  ·have hltd : decide ((i : Int) < (A.length : Int)) = true := decide_eq_true (by omega)
   obtain ⟨⟨c, cv⟩, hx⟩ : ∃ x, A[i]? = some x := ⟨_, List.getElem?_eq_getElem hlt⟩
   have hM40 : c.maps.length ≤ 40 := HMA.out (c, cv) (List.mem_of_getElem? hx)
   have HPS := Lib.hid (partL_succ f (A.map Prod.fst) l (i := i) (c := c) (by rw [List.getElem?_map, hx]; rfl))
   obtain ⟨b, off, rfl, hbs, e0, -, -, e3⟩ := c_cells (HA.out w (Below.refl _ _)).row hx
   obtain ⟨am, cm, hcv, -⟩ := (HA.out w (Below.refl _ _)).maps (c, cv) (List.mem_of_getElem? hx)
   simp only at hcv
   subst hcv
   have HC0 := Lib.hid (fun W (h : Below w.heap.size w W) => (h.cell (p := ⟨b, off + i * 4, none⟩) hbs).trans e0)
   have HC3 := Lib.hid (fun W (h : Below w.heap.size w W) => (h.cell (p := ⟨b, off + i * 4 + 3, none⟩) hbs).trans e3)
   have HMC := Lib.hid ((HA.out w (Below.refl _ _)).maps (c, .slice am c.maps.length cm) (List.mem_of_getElem? hx))
   clear hx hbs e0 e3
   go_wp2
   obtain ⟨L0, hL0⟩ : ∃ L0, L0 = partL f ((A.map Prod.fst).take i) l := ⟨_, rfl⟩
   rw [← hL0] at HS HPS
   have HL0 := Lib.hid (show L0.length ≤ 480 from by
    have h := partL_len f l ((A.map Prod.fst).take i) (fun y hy => by
     obtain ⟨z, hz, rfl⟩ := List.mem_map.1 (List.mem_of_mem_take hy)
     exact HMA.out z hz)
    rw [← hL0, List.length_take] at h
    have := HN.out.1
    omega)
   clear hL0
   have H1 := Lib.hid (show Sat wr (ownG u7 (L0 ++ gonesC f c.id (c.maps.take 0) l) * old w) by rw [show gonesC f c.id (c.maps.take 0) l = [] from rfl, List.append_nil]; exact HS.out.2)
   have H2 := Lib.hid HS.out.1
   clear HS
   go_loopw [7, 9] (fun v k wr => PiS w f c L0 l v k wr) (fun _ k _ => c.maps.length - (intOf k).toNat)
   case atStart => exact ⟨⟨0, Nat.zero_le _, rfl, H2.out, H1.out⟩⟩
   case round =>
    clear H1 H2
    obtain ⟨k, hk1, rfl, hsm, hst⟩ := hrel.st
    clear hrel
    have hk40 : (k : Int) ≤ 40 := by omega
    have hbw := hsm.below_of hst
    have c3 := HC3.out wr hbw
    have HS := Lib.hid (And.intro hsm hst)
    clear hsm hst
    by_cases hkl : k < c.maps.length
    ·have hkd : decide ((k : Int) < (c.maps.length : Int)) = true := decide_eq_true (by omega)
     obtain ⟨m, hm⟩ : ∃ m, c.maps[k]? = some m := ⟨_, List.getElem?_eq_getElem hkl⟩
     obtain ⟨mb, mo, rfl, hmb, m0, m1⟩ := m_cells HMC.out hm
     have HM := Lib.hid (And.intro ((hbw.cell (p := ⟨mb, mo + k * 2, none⟩) hmb).trans m0) ((hbw.cell (p := ⟨mb, mo + k * 2 + 1, none⟩) hmb).trans m1))
     have HGS := Lib.hid (gonesC_succ f c.id c.maps l hm)
     have HA5 := Lib.hid (And.intro (HS.out.1.alloc (.cells zMp TMp)) (HS.out.2.alloc (.cells zMp TMp)))
     have n0 := HM.out.1
     have n1 := HM.out.2
     clear hm hmb m0 m1 hbw
     go_upto_region 9 with (first
      | ((with_reducible (refine wpList_alloc_zero ?_ TMp ?_ _ (zeroMp _) ?_)); rfl; rfl; clear c3 HM n0 n1; generalize wr.alloc (.cells zMp TMp) = w5 at HA5 ⊢; generalize wr.heap.size = g10 at HA5 ⊢)
      | (refine wpList_store_blk (T := TMp) (old := zMp) (new := #[.int .i64 m.1, .int .i64 m.2]) rfl rfl rfl rfl HA5.out.2 (infoMp rfl) rfl (by simp [Value.oneCell']) ?_; intro w6 h6))
     have HP := Lib.hid (show PaW w g10 m u7 (L0 ++ gonesC f c.id (c.maps.take k) l) w6 from ⟨HA5.out.1.trans h6.out.1, h6.out.2⟩)
     clear h6 HA5 HS
     have HNL2 := Lib.hid (fun (h : lostU l m.2 = none) => show PiS w f c L0 l u7 (.int .i64 ((k : Int) + 1)) w6 from ⟨k + 1, by omega, by push_cast; rfl, HP.out.same, by rw [HGS.out, h, Option.map_none, Option.toList_none, List.append_nil]; exact HP.out.sat.right⟩)
     have q1 := HP.out.c1
     by_cases ha : 1 ≤ m.2
     case neg =>
      have d1 : decide (1 ≤ m.2) = false := decide_eq_false ha
      have HF := Lib.hid (HNL2.out (lostU_lo ha))
      clear ha HNL2
      go_wp2
      go_roundw
      case rel => exact HF.out
      case measure => simp only [intOf]; omega
     by_cases hb : m.2 ≤ (nl : Int)
     case neg =>
      have d1 : decide (1 ≤ m.2) = true := decide_eq_true ha
      have d2 : decide (m.2 ≤ (nl : Int)) = false := decide_eq_false hb
      have HF := Lib.hid (HNL2.out (lostU_hi (by rw [← HNL.out]; exact hb)))
      clear ha hb HNL2
      go_wp2
      go_roundw
      case rel => exact HF.out
      case measure => simp only [intOf]; omega
     have d1 : decide (1 ≤ m.2) = true := decide_eq_true ha
     have d2 : decide (m.2 ≤ (nl : Int)) = true := decide_eq_true hb
     obtain ⟨z, hz⟩ : ∃ z : Nat, m.2 - 1 = (z : Int) := ⟨(m.2 - 1).toNat, by omega⟩
     have hzl : z < nl := by omega
     have hm40 : m.2 ≤ 40 := by have := HN.out.2; omega
     have hw1 : IntKind.i64.wrap (m.2 - 1) = (z : Int) := by rw [IntWalk.i64_in _ (by omega), hz]
     have hzd : (z : Int) < (nl : Int) := by omega
     obtain ⟨⟨x, lost⟩, hx⟩ : ∃ x, l[z]? = some x := ⟨_, List.getElem?_eq_getElem (by rw [← HNL.out]; exact hzl)⟩
     have hI2 := HI.out w (Below.refl _ _)
     obtain ⟨ib, ioff, rfl, hib, i1, i2⟩ := it_cells hI2 hx
     have HI0 := Lib.hid (fun W (h : Below w.heap.size w W) => (h.cell (p := ⟨ib, ioff + z * 2, none⟩) hib).trans i1)
     have HI1 := Lib.hid (fun W (h : Below w.heap.size w W) => (h.cell (p := ⟨ib, ioff + z * 2 + 1, none⟩) hib).trans i2)
     have j2 := HI1.out w6 HP.out.bel
     have HLU := Lib.hid (lostU_at hz hx)
     clear hI2 hib i1 i2 hx
     cases lost
     case false =>
      have HF := Lib.hid (HNL2.out HLU.out)
      clear ha hb HNL2
      dsimp only at j2
      go_wp2
      go_roundw
      case rel => exact HF.out
      case measure => simp only [intOf]; omega
     dsimp only at j2
     go_upto_region 10 with (fail)
     have hS0 : Below w.heap.size w w6.drew ∧ w6.drew.cell? ⟨g10, 0, none⟩ = some (.int .i64 m.1) ∧ w6.drew.cell? ⟨g10, 1, none⟩ = some (.int .i64 m.2) := ⟨HP.out.drew.bel, HP.out.drew.c0, HP.out.drew.c1⟩
     refine reg_begin (fun w' => Below w.heap.size w w' ∧ w'.cell? ⟨g10, 0, none⟩ = some (.int .i64 m.1) ∧ w'.cell? ⟨g10, 1, none⟩ = some (.int .i64 m.2)) (by kernel_rfl) ?_
     (apply reg_take 0 rfl rfl (by decide +kernel) rfl); (intro w' hw'; go_simp; rfl); exact hS0; simp only [zq1, zq2, zq3]
     (apply reg_take 1 rfl rfl (by decide +kernel) rfl); (intro w' hw'; go_simp; rfl); exact hS0; simp only [zq1, zq2, zq3]
     (apply reg_take 2 rfl rfl (by decide +kernel) rfl); (intro w' hw'; go_simp; rfl); exact hS0; simp only [zq1, zq2, zq3]
     (apply reg_take 3 rfl rfl (by decide +kernel) rfl); (intro w' hw'; go_simp; rfl); exact hS0; simp only [zq1, zq2, zq3]
     refine reg_take 4 (v := .pointer (some ⟨b, off + i * 4, none⟩)) rfl rfl (by decide +kernel) rfl (fun w' h => exec_index_slice (n := A.length) rfl rfl rfl Tryz.underlying22 htc htcs hlt) hS0 ?_; simp only [zq1, zq2, zq3]
     (apply reg_take 5 rfl rfl (by decide +kernel) rfl); (intro w' hw'; go_simp; rfl); exact hS0; simp only [zq1, zq2, zq3]
     refine reg_take 6 (v := .int .i64 c.id) rfl rfl (by decide +kernel) rfl (fun w' h => exec_load_cell rfl rfl Tryz.underlying3 rfl (HC0.out w' h.1)) hS0 ?_; simp only [zq1, zq2, zq3]
     (apply reg_take 7 rfl rfl (by decide +kernel) rfl); (intro w' hw'; go_simp; rfl); exact hS0; simp only [zq1, zq2, zq3]
     refine reg_take 8 (v := .int .i64 m.1) rfl rfl (by decide +kernel) rfl (fun w' h => exec_load_cell rfl rfl Tryz.underlying3 rfl h.2.1) hS0 ?_; simp only [zq1, zq2, zq3]
     (apply reg_take 9 rfl rfl (by decide +kernel) rfl); (intro w' hw'; go_simp; rfl); exact hS0; simp only [zq1, zq2, zq3]
     (apply reg_take 10 rfl rfl (by decide +kernel) rfl); (intro w' hw'; go_simp; rfl); exact hS0; simp only [zq1, zq2, zq3]
     refine reg_take 11 (v := .int .i64 m.2) rfl rfl (by decide +kernel) rfl (fun w' h => exec_load_cell rfl rfl Tryz.underlying3 rfl h.2.2) hS0 ?_; simp only [zq1, zq2, zq3]
     refine reg_take 12 (v := .int .i64 ((z : Nat) : Int)) rfl rfl (by decide +kernel) rfl (fun w' h => exec_binop (vx := .int .i64 m.2) (vy := .int .i64 1) rfl rfl rfl rfl (by rw [b_sub _ m.2 1 (z : Int) (by omega) (by omega) (by omega)]; rfl)) hS0 ?_; simp only [zq1, zq2, zq3]
     refine reg_take 13 (v := .pointer (some ⟨ib, ioff + z * 2, none⟩)) rfl rfl (by decide +kernel) rfl (fun w' h => exec_index_slice (n := nl) rfl rfl rfl Tryz.underlying23 hti41 htis41 hzl) hS0 ?_; simp only [zq1, zq2, zq3]
     refine reg_take 14 (v := .agg (itemA x true)) rfl rfl (by decide +kernel) rfl (fun w' h => exec_load_mid rfl rfl (load_item (HI0.out w' h.1) (HI1.out w' h.1))) hS0 ?_; simp only [zq1, zq2, zq3]
     refine reg_call 15 rfl rfl (by decide +kernel) rfl (f := 29) (args := #[.agg (itemA x true)]) (R := fun v w' => v = .string (strL (unitL x)) ∧ Below w6.drew.heap.size w6.drew w') (by kernel_rfl) ((unit_any x true w6.drew).mono fun e w' h => ⟨_, h.1, rfl, h.2⟩) ?_
     rintro _ w7 ⟨rfl, h7⟩
     simp only [zq1, zq2, zq3]
     have HP7 := Lib.hid (HP.out.drew.below h7)
     have hS7 := And.intro HP7.out.bel (And.intro HP7.out.c0 HP7.out.c1)
     clear h7 hS0
     refine ⟨hS7, ?_⟩
     refine reg_call 16 rfl rfl (by decide +kernel) rfl (f := 27) (args := #[.string (strL (unitL x))]) (R := fun v w' => v = .agg (digM (unitL x)) ∧ Below w7.heap.size w7 w') (by kernel_rfl) ((digest_any (unitL x) (unitL_len x) w7 (HTK.out w7 HP7.out.bel)).mono fun e w' h => ⟨_, h.1, rfl, h.2⟩) ?_
     rintro _ w8 ⟨rfl, h8⟩
     simp only [zq1, zq2, zq3]
     have HP8 := Lib.hid (HP7.out.below h8)
     have hS8 := And.intro HP8.out.bel (And.intro HP8.out.c0 HP8.out.c1)
     clear h8 hS7 HP7
     refine ⟨hS8, ?_⟩
     obtain ⟨gv, hgv⟩ : ∃ gv : Array Value, gv = #[Value.bool f, .int .i64 c.id, .int .i64 m.1] ++ digM (unitL x) := ⟨_, rfl⟩
     have hbe := (gone_build (Go.Sha.sumN ([3] ++ lenB (unitL x))) (.bool f) (.int .i64 c.id) (.int .i64 m.1) (digM (unitL x)) rfl).trans hgv.symm
     have hgs : gv.size = 19 := by rw [hgv, Array.size_append, digM_size]; rfl
     (apply reg_take 17 rfl rfl (by decide +kernel) rfl); (intro w' hw'; go_simp; rfl); exact hS8; simp only [zq1, zq2, zq3]
     have h9 := HP8.out.sat.alloc (.cells gv TGn)
     have hS9 : Below w.heap.size w (w8.alloc (.cells gv TGn)) ∧ (w8.alloc (.cells gv TGn)).cell? ⟨g10, 0, none⟩ = some (.int .i64 m.1) ∧ (w8.alloc (.cells gv TGn)).cell? ⟨g10, 1, none⟩ = some (.int .i64 m.2) := by
      refine ⟨(HP8.out.same.alloc (.cells gv TGn)).below_of (h9.perm (show _ = (pts w8.heap.size (.cells gv TGn (0, 0)) * (pts g10 (.cells #[.int .i64 m.1, .int .i64 m.2] TMp (0, 0)) * ownG u7 (L0 ++ gonesC f c.id (c.maps.take k) l))) * old w by ac_rfl)), ?_, ?_⟩
      ·rw [cells_at h9.right.block]; rfl
      ·rw [cells_at h9.right.block]; rfl
     refine reg_run 18 (.slice (some ⟨w8.heap.size, 0, none⟩) 1 1) (w8.alloc (.cells gv TGn)) rfl rfl (by decide +kernel) rfl (by
      have hds := digM_size (unitL x)
      have hfs := gone_slice (Go.Sha.sumN ([3] ++ lenB (unitL x))) (.bool f) (.int .i64 c.id) (.int .i64 m.1) (digM (unitL x)) rfl
      go_simp) hS9 ?_
     simp only [zq1, zq2, zq3]
     have hA9 := h9.perm (show _ = ownG u7 (L0 ++ gonesC f c.id (c.maps.take k) l) * (pts w8.heap.size (.cells gv TGn (0, 0)) * (pts g10 (.cells #[.int .i64 m.1, .int .i64 m.2] TMp (0, 0)) * old w)) by ac_rfl)
     have hln : (L0 ++ gonesC f c.id (c.maps.take k) l).length ≤ 520 := by
      have h1 := gonesC_len f c.id (c.maps.take k) l
      rw [List.length_take] at h1
      rw [List.length_append]
      have := HL0.out
      omega
     have hgvl : gv.toList = gnE (f, c.id, m.1, x) := by rw [hgv]; simp [gnE]
     obtain ⟨v', w9, hr, hsm9, hs9⟩ := run_append_ownAt (P := Tryz.prog) 32 32 TGn i0 _ Tryz.underlying32 hi hz0 (by rw [hz1]; rfl) u7 (L0 ++ gonesC f c.id (c.maps.take k) l).length ((L0 ++ gonesC f c.id (c.maps.take k) l).flatMap gnE) (by rw [hz1]; exact hA9) ⟨w8.heap.size, 0, none⟩ 1 1 gv.toList (by rw [hz1, Array.length_toList, hgs])
      (by intro j u hu; rw [Addr.add_mid, cells_at hA9.right.block, Nat.zero_add]; simpa using hu) (by rw [hgvl]; exact gnE_one _) (by unfold maxLen; omega) (by rw [hz2]; omega)
     rw [hz1] at hs9
     have hs10 : Sat w9 (ownG v' (L0 ++ gonesC f c.id (c.maps.take (k + 1)) l) * (pts w8.heap.size (.cells gv TGn (0, 0)) * (pts g10 (.cells #[.int .i64 m.1, .int .i64 m.2] TMp (0, 0)) * old w))) := by
      rw [HGS.out, HLU.out, if_pos rfl, ← List.append_assoc]
      unfold ownG
      rw [List.length_append, List.flatMap_append]
      rw [hgvl] at hs9
      simpa using hs9
     have HS10 := Lib.hid (And.intro ((HP8.out.same.alloc (.cells gv TGn)).trans hsm9) hs10)
     have hS10 : Below w.heap.size w w9 ∧ w9.cell? ⟨g10, 0, none⟩ = some (.int .i64 m.1) ∧ w9.cell? ⟨g10, 1, none⟩ = some (.int .i64 m.2) := by
      refine ⟨HS10.out.1.below_of (HS10.out.2.perm (show _ = (ownG v' (L0 ++ gonesC f c.id (c.maps.take (k + 1)) l) * (pts w8.heap.size (.cells gv TGn (0, 0)) * pts g10 (.cells #[.int .i64 m.1, .int .i64 m.2] TMp (0, 0)))) * old w by ac_rfl)), ?_, ?_⟩
      ·rw [cells_at hs10.right.right.block]; rfl
      ·rw [cells_at hs10.right.right.block]; rfl
     refine reg_run 19 (v') (w9) rfl rfl (by decide +kernel) rfl (exec_append rfl rfl rfl hr) (hS10) ?_; simp only [zq1, zq2, zq3]
     clear hr hs9 hs10 hA9 h9 hS9 hbe hgs hgvl hgv hln hS8 HP8
     (apply reg_take 20 rfl rfl (by decide +kernel) rfl); (intro w' h1; go_simp; rfl); exact hS10; simp only [zq1, zq2, zq3]
     refine reg_done (by decide +kernel) ?_
     clear hS10
     have HF := Lib.hid (show PiS w f c L0 l v' (.int .i64 ((k : Int) + 1)) w9 from ⟨k + 1, by omega, by push_cast; rfl, HS10.out.1, (HS10.out.2.perm (show _ = (pts w8.heap.size (.cells gv TGn (0, 0)) * pts g10 (.cells #[.int .i64 m.1, .int .i64 m.2] TMp (0, 0))) * (ownG v' (L0 ++ gonesC f c.id (c.maps.take (k + 1)) l) * old w) by ac_rfl)).right⟩)
     clear HS10
     go_wp2
     go_roundw
     case rel => exact HF.out
     case measure => simp only [intOf]; omega
    ·have hke : k = c.maps.length := by omega
     have hkd : decide ((k : Int) < (c.maps.length : Int)) = false := decide_eq_false (by omega)
     have HF := Lib.hid (show PoS w f A l u7 (.int .i64 ((i : Int) + 1)) wr from ⟨i + 1, by omega, by push_cast; rfl, HS.out.1, by rw [HPS.out]; have h := HS.out.2; rw [hke, List.take_length] at h; exact h⟩)
     clear HS hke
     go_wp2
     go_roundw
     case rel => exact HF.out
     case measure => simp only [intOf]; omega
  ·have hie : i = A.length := by omega
   have hid : decide ((i : Int) < (A.length : Int)) = false := decide_eq_false (by omega)
   have HF := Lib.hid (show Sat wr (ownG u7 (partL f (A.map Prod.fst) l) * old w) from by have h := HS.out.2; rw [hie, List.take_of_length_le (by rw [List.length_map]; omega)] at h; exact h)
   clear hie
   go_wp2
   go_ret
   exact ⟨_, rfl, HS.out.1, HF.out⟩
end Go.Proofs.YteikbikopgabjaaGreatDoor
end
section
namespace Go.Proofs.YteikbikopgabjaaGreatDoor
open Go.RowKit Go.Sha Go.Sl Go.GF Go.Vol
theorem rowsO_own {w : World} {F : HProp} {T : TypeId} {k n : Nat} {v : Value} {L : List Value} (hs : Sat w (ownAt T k v n L * F)) : RowsO w v n L := by
 rcases ownAt_iff.1 hs with ⟨rfl, rfl, -, -⟩ | ⟨g, cap, cur, ⟨rfl, h2, h3, -, -, -⟩, h4⟩
 ·exact ⟨none, 0, rfl, by unfold maxLen; omega, fun h => absurd h (by omega)⟩
 ·refine ⟨some ⟨g, 0, none⟩, cap, rfl, by omega, fun hp => ⟨g, 0, rfl, ?_, fun j u hu => ?_⟩⟩
  ·exact (Array.getElem?_eq_some_iff.1 h4.block).1
  ·obtain ⟨g', cap', e, hc⟩ := ownAt_cells hs hp
   cases e
   rw [Nat.zero_add]; exact hc j u hu
theorem wpList_appG {ops : Array Oper} {rest : List Oper} {o : Oper} {a : Act} {Q : Exit → Act → World → Prop} {F : HProp} {W : World} (hgd : o.guard = none) (s x : Operand)
  (ho : o.op = .call { callee := .builtin .append, args := #[s, x], argTypes := #[32, 32] }) {v y : Value} {L M : List GoneM} (hs : a.eval s = v) (hx : a.eval x = y)
  (h : Sat W (ownG v L * F)) (hr : RowsO W y M.length (M.flatMap gnE)) (hn : L.length + M.length ≤ 100000)
  (k : ∀ v' w', Same W w' → Sat w' (ownG v' (L ++ M) * F) → wpList Tryz.prog ops Q rest (a.put o.dst v') w') : wpList Tryz.prog ops Q (o :: rest) a W := by
 obtain ⟨i0, hi, hz0, hz1, hz2⟩ := info_parts info_gn
 obtain ⟨ao, cap, rfl, hmx, h4⟩ := hr
 have hML : (M.flatMap gnE).length = M.length * 19 := by
  clear hmx h4 k hx hn
  induction M with
  | nil => rfl
  | cons g M ih => rw [List.flatMap_cons, List.length_append, gnE_len, ih, List.length_cons]; omega
 have hM1 : ∀ u ∈ M.flatMap gnE, u.oneCell' = true := fun u hu => by
  obtain ⟨g, _, hg⟩ := List.mem_flatMap.1 hu
  exact gnE_one g u hg
 by_cases hm : M.length = 0
 ·obtain rfl := List.eq_nil_of_length_eq_zero hm
  have hle : ∃ bo cp, v = .slice bo L.length cp ∧ L.length ≤ cp := by
   rcases ownAt_iff.1 h with ⟨rfl, h0, _, _⟩ | ⟨g, cap, cur, ⟨rfl, h1, _⟩, _⟩
   ·exact ⟨none, 0, by rw [h0], by omega⟩
   ·exact ⟨_, _, rfl, h1⟩
  obtain ⟨bo, cp, rfl, hnc⟩ := hle
  have hrun := run_append_r0 (P := Tryz.prog) (w := W) 32 o.type TGn i0 Tryz.underlying32 hi bo ao L.length cp cap hnc
  refine wpList_run hgd (v := .slice bo L.length cp) (w' := W) ?_ (k _ W (Same.refl W) (by rw [List.append_nil]; exact h))
  unfold execOp
  simp only [ho, resolve, invoke, builtin, Sem.run_bind, Sem.run_pure, Result.andThen_ok, List.map_toArray, List.map_cons, List.map_nil, hs, hx, List.length_nil, hrun]
 ·obtain ⟨b, off, rfl, hb, hc⟩ := h4 (by omega)
  refine wpList_append_ownAt hgd s x 32 TGn ho i0 _ Tryz.underlying32 hi hz0 hz1 hz2 rfl h (M.flatMap gnE) hs hx hML (fun j u hu => by rw [Addr.add_mid]; exact hc j u hu) hM1 (by unfold maxLen; omega) (by omega) fun v' w' h6 => k v' w' h6.out.1 ?_
  have h7 := h6.out.2
  unfold ownG
  rw [List.length_append, List.flatMap_append]
  exact h7
def reportL (A B : List ContM) (l : List ItM) : List GoneM := partL false A l ++ partL true B l
theorem partL_bound {f : Bool} {A : List ElC} {l : List ItM} (h : A.length ≤ 12) (hm : mapsOk A) : (partL f (A.map Prod.fst) l).length ≤ 480 := by
 have h1 := partL_len f l (A.map Prod.fst) (fun y hy => by
  obtain ⟨z, hz, rfl⟩ := List.mem_map.1 hy
  exact hm z hz)
 rw [List.length_map] at h1
 omega
set_option maxRecDepth 20000 in
set_option maxHeartbeats 2000000 in
theorem rreport_any (va vb vi : Value) (A B : List ElC) (l : List ItM) (w : World) (hA : CntL w va A) (hB : CntL w vb B) (hI : ItL w vi l) (hF : FewP A B l) (hK : TabK w) :
  Calls Tryz.prog 13 #[va, vb, vi] w fun e w' => ∃ v, e = .returned v ∧ Same w w' ∧ Sat w' (ownG v (reportL (A.map Prod.fst) (B.map Prod.fst) l) * old w) := by
 have H1 := Lib.hid (part_any false va vi A l w hA hI hF.1 hF.2.2.2.1 hF.2.2.1 hK)
 have H2 := Lib.hid (fun W (h : Below w.heap.size w W) => part_any true vb vi B l W (hB.below h) (RowsO.below hI h) hF.2.1 hF.2.2.2.2 hF.2.2.1 (hK.below h))
 have HL := Lib.hid (And.intro (partL_bound (f := false) (l := l) hF.1 hF.2.2.2.1) (partL_bound (f := true) (l := l) hF.2.1 hF.2.2.2.2))
 clear hA hB hI hF hK
 go_enter Tryz.func13, Tryz.ntmps13
 have HC := Lib.hid (show reportL (A.map Prod.fst) (B.map Prod.fst) l = partL false (A.map Prod.fst) l ++ partL true (B.map Prod.fst) l from rfl)
 generalize partL false (A.map Prod.fst) l = L1 at H1 HL HC
 generalize partL true (B.map Prod.fst) l = L2 at H2 HL HC
 go_upto_region 1 with (fail)
 go_wp2_with (first
  | (go_at_call 36; (with_reducible refine H1.out.mono ?_); rintro e w1 ⟨v1, rfl, h1, h2⟩; have HA1 := Lib.hid (And.intro h1 h2); clear h1 h2)
  | (go_at_call 36; (with_reducible refine (H2.out w1 (HA1.out.1.below_of HA1.out.2)).mono ?_); rintro e w2 ⟨v2, rfl, h3, h4⟩; have HA2 := Lib.hid (And.intro (HA1.out.1.trans h3) (And.intro (rowsO_own h4) ((h4.of_all HA1.out.2).right))); clear h3 h4)
  | (at_builtin; refine wpList_appG rfl _ _ rfl rfl rfl HA2.out.2.2 HA2.out.2.1 (by have := HL.out; omega) ?_; intro v3 w3 h5 h6))
 go_ret
 exact ⟨_, rfl, HA2.out.1.trans h5, by rw [HC.out]; exact h6⟩
end Go.Proofs.YteikbikopgabjaaGreatDoor
end
section
namespace Go.Proofs.YteikbikopgabjaaGreatDoor
open Go.RowKit Go.Vol Go.Sl
theorem IntsAt.row {w wr : World} {v : Value} {l : List Int} (h : IntsAt w v l) (hb : Below w.heap.size w wr) : IntsAt wr v l := by
 obtain ⟨ao, c, rfl, h⟩ := h
 refine ⟨ao, c, rfl, fun hne => ?_⟩
 obtain ⟨b, off, rfl, hc⟩ := h hne
 exact ⟨b, off, rfl, fun j x hj => (hb.cell (World.block_lt_of_cell? _ _ (hc j x hj))).trans (hc j x hj)⟩
end Go.Proofs.YteikbikopgabjaaGreatDoor
end
