import Derived.Test.YteikbikopgabjaaGreatDoorH32
import Derived.Test.YteikbikopgabjaaGreatDoorH33
import Derived.Deep.CutBlock
/- Part 34 of a proof; the last part says what is proved. -/
section
namespace Go.Proofs.YteikbikopgabjaaGreatDoor
open Go.RowKit Go.Sha Go.Sl Go.GF Go.Vol Go.Loss
def volE' (S : SpaceM) (L : List ChM) (p : PartM) : List EachE := visL false p.id p.tenant L (contM S p.id).1
def snapE' (S : SpaceM) (L : List ChM) (p : PartM) : List EachE := visL true p.id p.tenant L (imageM S p.id).1
def eachL (S : SpaceM) (L : List ChM) : List EachE := S.vols.flatMap (volE' S L) ++ S.snaps.flatMap (snapE' S L)
structure SmallS (S : SpaceM) : Prop where
 v : S.vols.length ≤ 20
 s : S.snaps.length ≤ 20
 vm : ∀ p ∈ S.vols, (contM S p.id).1.length ≤ 100
 sm : ∀ p ∈ S.snaps, (imageM S p.id).1.length ≤ 100
theorem flatMap_len {α β : Type} {f : α → List β} {k : Nat} : ∀ {l : List α}, (∀ x ∈ l, (f x).length ≤ k) → (l.flatMap f).length ≤ l.length * k
 | [], _ => by simp
 | x :: l, h => by
  have h1 := flatMap_len (l := l) fun y hy => h y (List.mem_cons_of_mem _ hy)
  have h2 := h x List.mem_cons_self
  rw [List.flatMap_cons, List.length_append, List.length_cons, Nat.add_mul, Nat.one_mul]
  omega
theorem SmallS.vlen {S : SpaceM} (h : SmallS S) (L : List ChM) (k : Nat) : ((S.vols.take k).flatMap (volE' S L)).length ≤ 2000 := by
 have h1 := flatMap_len (l := S.vols.take k) (f := volE' S L) (k := 100) fun p hp => Nat.le_trans (visL_len _ _ _ _ _) (h.vm p (List.mem_of_mem_take hp))
 have h2 := h.v
 rw [List.length_take] at h1
 have h3 : min k S.vols.length * 100 ≤ 20 * 100 := Nat.mul_le_mul_right _ (by omega)
 omega
theorem SmallS.slen {S : SpaceM} (h : SmallS S) (L : List ChM) (k : Nat) : ((S.snaps.take k).flatMap (snapE' S L)).length ≤ 2000 := by
 have h1 := flatMap_len (l := S.snaps.take k) (f := snapE' S L) (k := 100) fun p hp => Nat.le_trans (visL_len _ _ _ _ _) (h.sm p (List.mem_of_mem_take hp))
 have h2 := h.s
 rw [List.length_take] at h1
 have h3 : min k S.snaps.length * 100 ≤ 20 * 100 := Nat.mul_le_mul_right _ (by omega)
 omega
def zVi : Array Value := #[.int .i64 0, .int .i64 0, .int .i64 0]
def zSi : Array Value := #[.int .i64 0, .int .i64 0, .int .i64 0, .int .i64 0]
theorem zeroVi (w : World) : (zeroValue TVi).run Tryz.prog w = .ok (.agg zVi) w := by kernel_rfl
theorem zeroSi (w : World) : (zeroValue TSi).run Tryz.prog w = .ok (.agg zSi) w := by kernel_rfl
theorem infoVi {c : Array Value} (h : c.size = 3) : (Tryz.prog.info? TVi).map (·.size) = some c.size := by rw [h]; kernel_rfl
theorem infoSi {c : Array Value} (h : c.size = 4) : (Tryz.prog.info? TSi).map (·.size) = some c.size := by rw [h]; kernel_rfl
structure EaS (w : World) (I : List EachE → HProp) (Lg : List EachE) (f : PartM → List EachE) (ps : List PartM) (F : HProp) (i : Value) (wr : World) : Prop where
 st : ∃ k : Nat, k ≤ ps.length ∧ i = .int .i64 (k : Int) ∧ Same w wr ∧ Sat wr (I (Lg ++ (ps.take k).flatMap f) * F)
theorem flatTake {α β : Type} {f : α → List β} {l : List α} {k : Nat} {x : α} (h : l[k]? = some x) : (l.take (k + 1)).flatMap f = (l.take k).flatMap f ++ f x := by
 rw [List.take_add_one, h, List.flatMap_append]
 simp
theorem each1_run (args : Array Value) (w : World) : (callFunc 60 args).run Tryz.prog w = .ok (.enter 60 args) w := by kernel_rfl
set_option maxRecDepth 20000 in
set_option maxHeartbeats 4000000 in
theorem each_any (f : FuncId) (cap : Array Value) (I : List EachE → HProp) (hD : DoIs f cap I) (ps : Nat) (S : SpaceM) (pt b cp : Nat) (rb : Nat → Nat) (L : List ChM) (R : HProp) (wb : World)
  (hR : ∀ W P, Same wb W → Sat W (P * R) → Below wb.heap.size wb W) (hS : SpaceAt TNode TSp wb ps S) (hwf : S.WF) (hsml : SmallS S) (hT : TabR wb pt b cp rb L) (w : World) (hsm : Same wb w) (hI : Sat w (I [] * R)) :
  Calls Tryz.prog 34 #[.pointer (some ⟨ps, 0, none⟩), .pointer (some ⟨pt, 0, none⟩), .func (.func f) #[] cap] w fun e w' => e = .returned (.tuple #[]) ∧ Same w w' ∧ Sat w' (I (eachL S L) * R) := by
 obtain ⟨tv, htv, htvs⟩ := Option.map_eq_some_iff.1 (show (Tryz.prog.info? TVi).map (·.size) = some 3 from by kernel_rfl)
 obtain ⟨ts, hts, htss⟩ := Option.map_eq_some_iff.1 (show (Tryz.prog.info? TSi).map (·.size) = some 4 from by kernel_rfl)
 have e1 : ∀ (W : World) o, (W.alloc o).heap.size = W.heap.size + 1 := fun W o => by simp
 have h1 := (hI.alloc (.cells #[.pointer (some ⟨pt, 0, none⟩)] TPtb)).alloc (.cells #[.func (.func f) #[] cap] TDoF)
 rw [e1] at h1
 have HW0 := Lib.hid (And.intro (((Same.refl w).alloc (.cells #[.pointer (some ⟨pt, 0, none⟩)] TPtb)).alloc (.cells #[.func (.func f) #[] cap] TDoF)) h1)
 have hcf := hD.run
 have hcf2 := each1_run
 have HVL := Lib.hid (fun W (h : Below wb.heap.size wb W) => volsO_any ps S W (hS.below h) hwf)
 have HSL := Lib.hid (fun W (h : Below wb.heap.size wb W) => snapsO_any ps S W (hS.below h) hwf)
 have HCO := Lib.hid (fun W id (h : Below wb.heap.size wb W) => contO_any ps S id W (hS.below h))
 have HIM := Lib.hid (fun W id (h : Below wb.heap.size wb W) => imgO_any ps S id W (hS.below h))
 have HRR := Lib.hid hR
 have HSM := Lib.hid hsm
 have HSML := Lib.hid hsml
 have HWF := Lib.hid hwf
 have HVT := Lib.hid (fun fl id ten ht lv its g4 g5 Lg R' hR' W hsm' hS' hn => visit_any f cap I hD fl id ten ht lv its g4 g5 pt b cp rb L Lg R' wb hR' hT W hsm' hS' hn)
 clear hD hS hwf hT hI h1 hR hsm e1 hsml
 go_enter Tryz.func34, Tryz.ntmps34
 go_upto_region 2 with (fail)
 generalize (w.alloc (.cells #[.pointer (some ⟨pt, 0, none⟩)] TPtb)).alloc (.cells #[.func (.func f) #[] cap] TDoF) = w1 at HW0 ⊢
 generalize w.heap.size + 1 = g5 at HW0 ⊢
 generalize w.heap.size = g4 at HW0 ⊢
 obtain ⟨G, hG⟩ : ∃ G, G = pts g4 (.cells #[.pointer (some ⟨pt, 0, none⟩)] TPtb (0, 0)) * (pts g5 (.cells #[.func (.func f) #[] cap] TDoF (0, 0)) * R) := ⟨_, rfl⟩
 have HS1 := Lib.hid (And.intro HW0.out.1 (show Sat w1 (I [] * G) from HW0.out.2.perm (by rw [hG]; ac_rfl)))
 have HB := Lib.hid (show ∀ W P, Same w W → Sat W (P * G) → Below wb.heap.size wb W from fun W P h1 h2 => by
  rw [hG] at h2
  exact HRR.out W (P * (pts g4 (.cells #[.pointer (some ⟨pt, 0, none⟩)] TPtb (0, 0)) * pts g5 (.cells #[.func (.func f) #[] cap] TDoF (0, 0)))) (HSM.out.trans h1) (h2.perm (by ac_rfl)))
 have HG := Lib.hid hG
 clear hG HW0
 go_wp2_with (go_at_call 61; refine (HVL.out w1 (HB.out w1 _ HS1.out.1 HS1.out.2)).mono ?_; rintro e w2 ⟨vv, rfl, h2⟩; obtain ⟨va, vc, rfl⟩ := ownAt_slice h2.out.2; have HS2 := Lib.hid (And.intro (HS1.out.1.trans h2.out.1) (h2.out.2.of_all HS1.out.2)); clear h2)
 obtain ⟨nv, hnv⟩ : ∃ n, n = S.vols.length := ⟨_, rfl⟩
 have HNV := Lib.hid hnv
 rw [← hnv] at HS2 ⊢
 have hnv64 : nv ≤ 64 := by rw [hnv]; exact HWF.out.vlen
 clear hnv
 obtain ⟨F, hF⟩ : ∃ F, F = ownAt TVi 3 (.slice va nv vc) nv (S.vols.flatMap viE) * G := ⟨_, rfl⟩
 have HF := Lib.hid hF
 have H0 := Lib.hid (show Same w w2 ∧ Sat w2 (I ([] ++ (S.vols.take 0).flatMap (volE' S L)) * F) from ⟨HS2.out.1, HS2.out.2.perm (by rw [hF]; show _ = I [] * _; ac_rfl)⟩)
 clear hF HS2 HS1
 go_loopw [19] (fun i wr => EaS w I [] (volE' S L) S.vols F i wr) (fun i _ => nv - (intOf i).toNat)
 case atStart => exact ⟨⟨0, Nat.zero_le _, rfl, H0.out.1, H0.out.2⟩⟩
 case round =>
  clear H0
  obtain ⟨k, hk, rfl, hsm, hst⟩ := hrel.st
  clear hrel
  rw [← HNV.out] at hk
  have hk64 : (k : Int) ≤ 64 := by omega
  rw [List.nil_append] at hst
  have HS := Lib.hid (And.intro hsm hst)
  clear hsm hst
  by_cases hlt : k < nv
  ·have hltd : decide ((k : Int) < (nv : Int)) = true := decide_eq_true (by omega)
   obtain ⟨x, hx⟩ : ∃ x, S.vols[k]? = some x := ⟨_, List.getElem?_eq_getElem (by rw [← HNV.out]; exact hlt)⟩
   have hf := HS.out.2
   rw [HF.out] at hf
   have hf2 := hf.perm (show _ = ownAt TVi 3 (.slice va nv vc) nv (S.vols.flatMap viE) * (I ((S.vols.take k).flatMap (volE' S L)) * G) by ac_rfl)
   obtain ⟨gv, cv, e, hc⟩ := ownAt_cells hf2 (by omega)
   cases e
   have c0 := hc _ _ (flat_at viE_len S.vols k x hx 0 _ rfl)
   have c1 := hc _ _ (flat_at viE_len S.vols k x hx 1 _ rfl)
   have c2 := hc _ _ (flat_at viE_len S.vols k x hx 2 _ rfl)
   rw [Nat.add_zero] at c0
   have HX := Lib.hid hx
   have HXT := Lib.hid (HWF.out.vp x (List.mem_of_getElem? hx)).ten
   have HXM := Lib.hid (HSML.out.vm x (List.mem_of_getElem? hx))
   have HFT := Lib.hid (flatTake (f := volE' S L) hx)
   have HLL := Lib.hid (HSML.out.vlen L k)
   clear hf hf2 hc hx
   have HA3 := Lib.hid (And.intro (HS.out.1.alloc (.cells zVi TVi)) (HS.out.2.alloc (.cells zVi TVi)))
   go_upto_region 5 with (first
    | ((with_reducible (refine wpList_alloc_zero ?_ TVi ?_ _ (zeroVi _) ?_)); rfl; rfl; clear c0 c1 c2; generalize wr.alloc (.cells zVi TVi) = w3 at HA3 ⊢; generalize wr.heap.size = g8 at HA3 ⊢)
    | (refine wpList_store_blk (T := TVi) (old := zVi) (new := #[.int .i64 x.id, .int .i64 x.tenant, .int .i64 (cnt x.m : Int)]) rfl rfl rfl rfl HA3.out.2 (infoVi rfl) rfl (by simp [Value.oneCell']) ?_; intro w4 h4))
   have HW4 := Lib.hid (And.intro (HA3.out.1.trans h4.out.1) h4.out.2)
   clear h4 HA3
   have q0 : w4.cell? ⟨g8, 0, none⟩ = some (.int .i64 x.id) := by rw [cells_at HW4.out.2.block]; rfl
   have HB4 := Lib.hid (HB.out w4 (pts g8 (.cells #[.int .i64 x.id, .int .i64 x.tenant, .int .i64 (cnt x.m : Int)] TVi (0, 0)) * (I ((S.vols.take k).flatMap (volE' S L)) * ownAt TVi 3 (.slice (some ⟨gv, 0, none⟩) nv vc) nv (S.vols.flatMap viE))) HW4.out.1 (HW4.out.2.perm (by rw [HF.out]; ac_rfl)))
   obtain ⟨R', hR'⟩ : ∃ R', R' = pts g8 (.cells #[.int .i64 x.id, .int .i64 x.tenant, .int .i64 (cnt x.m : Int)] TVi (0, 0)) * (ownAt TVi 3 (.slice (some ⟨gv, 0, none⟩) nv vc) nv (S.vols.flatMap viE) * R) := ⟨_, rfl⟩
   have HRP := Lib.hid (show ∀ W P, Same wb W → Sat W (P * R') → Below wb.heap.size wb W from fun W P h1 h2 => HRR.out W (P * (pts g8 (.cells #[.int .i64 x.id, .int .i64 x.tenant, .int .i64 (cnt x.m : Int)] TVi (0, 0)) * ownAt TVi 3 (.slice (some ⟨gv, 0, none⟩) nv vc) nv (S.vols.flatMap viE))) h1 (h2.perm (by rw [hR']; ac_rfl)))
   have HRE := Lib.hid hR'
   clear hR'
   have HVO := Lib.hid (show volE' S L x = visL false x.id x.tenant L (contM S x.id).1 from rfl)
   generalize (S.vols.take k).flatMap (volE' S L) = Lk at HW4 HFT HLL HS
   have HCX := HCO.out w4 x.id HB4.out
   generalize volE' S L x = Lx at HFT HVO
   generalize (contM S x.id).1 = its at HXM HVO HCX
   replace HCX := Lib.hid HCX
   go_upto_region 6 with (go_at_call 62; refine HCX.out.mono ?_; rintro e w5 ⟨r, rfl, h5, h6⟩; have HW5 := Lib.hid (And.intro (HW4.out.1.trans h5) (h6.of_all HW4.out.2)); clear h5 h6)
   have q0 : w5.cell? ⟨g8, 0, none⟩ = some (.int .i64 x.id) := by rw [cells_at (HW5.out.2.right).block]; rfl
   have q1 : w5.cell? ⟨g8, 1, none⟩ = some (.int .i64 x.tenant) := by rw [cells_at (HW5.out.2.right).block]; rfl
   have HV5 := Lib.hid (HVT.out false x.id x.tenant HXT.out r its g4 g5 Lk R' HRP.out w5 (HSM.out.trans HW5.out.1) (HW5.out.2.perm (by rw [HF.out, HG.out, HRE.out]; ac_rfl)) (by have := HXM.out; have := HLL.out; omega))
   go_wp2_with (go_at_call 60; refine HV5.out.mono ?_; rintro e w6 ⟨rfl, h7, h8⟩; have HW6 := Lib.hid (And.intro (HW5.out.1.trans h7) h8); clear h7 h8)
   refine ⟨⟨k + 1, by rw [← HNV.out]; omega, by push_cast; rfl, HW6.out.1, ?_⟩, by simp only [intOf]; omega⟩
   have h9 := HW6.out.2
   rw [HRE.out, ← HVO.out] at h9
   rw [List.nil_append, HFT.out, HF.out, HG.out]
   exact (h9.perm (show _ = (ownAt TMp 2 r its.length (its.flatMap refE) * pts g8 (.cells #[.int .i64 x.id, .int .i64 x.tenant, .int .i64 (cnt x.m : Int)] TVi (0, 0))) * (I (Lk ++ Lx) * (ownAt TVi 3 (.slice (some ⟨gv, 0, none⟩) nv vc) nv (S.vols.flatMap viE) * (pts g4 (.cells #[.pointer (some ⟨pt, 0, none⟩)] TPtb (0, 0)) * (pts g5 (.cells #[.func (.func f) #[] cap] TDoF (0, 0)) * R)))) by ac_rfl)).right
  ·have hke : k = nv := by omega
   subst hke
   have hltd : decide ((k : Int) < (k : Int)) = false := decide_eq_false (by omega)
   have HS1 := Lib.hid (show Same w wr ∧ Sat wr (I (S.vols.flatMap (volE' S L)) * G) from ⟨HS.out.1, by
    have h := HS.out.2
    rw [HNV.out, List.take_length, HF.out] at h
    exact (h.perm (show _ = ownAt TVi 3 (.slice va k vc) k (S.vols.flatMap viE) * (I (S.vols.flatMap (volE' S L)) * G) by ac_rfl)).right⟩)
   obtain ⟨Lv, hLv⟩ : ∃ Lv, Lv = S.vols.flatMap (volE' S L) := ⟨_, rfl⟩
   have HLV := Lib.hid hLv
   have HLN := Lib.hid (show Lv.length ≤ 2000 by rw [hLv]; have := HSML.out.vlen L S.vols.length; rwa [List.take_length] at this)
   rw [← hLv] at HS1
   clear HS hLv HF hltd
   go_wp2_with (go_at_call 63; refine (HSL.out wr (HB.out wr _ HS1.out.1 HS1.out.2)).mono ?_; rintro e w2 ⟨vv, rfl, h2⟩; obtain ⟨sa, sc, rfl⟩ := ownAt_slice h2.out.2; have HS2 := Lib.hid (And.intro (HS1.out.1.trans h2.out.1) (h2.out.2.of_all HS1.out.2)); clear h2)
   obtain ⟨ns, hns⟩ : ∃ n, n = S.snaps.length := ⟨_, rfl⟩
   have HNS := Lib.hid hns
   rw [← hns] at HS2 ⊢
   have hns256 : ns ≤ 256 := by rw [hns]; exact HWF.out.slen
   clear hns
   obtain ⟨F, hF⟩ : ∃ F, F = ownAt TSi 4 (.slice sa ns sc) ns (S.snaps.flatMap siE) * G := ⟨_, rfl⟩
   have HF := Lib.hid hF
   have H0 := Lib.hid (show Same w w2 ∧ Sat w2 (I (Lv ++ (S.snaps.take 0).flatMap (snapE' S L)) * F) from ⟨HS2.out.1, HS2.out.2.perm (by rw [hF, show Lv ++ (S.snaps.take 0).flatMap (snapE' S L) = Lv by simp]; ac_rfl)⟩)
   clear hF HS2 HS1 hk hlt hk64
   go_loopw [41] (fun i wr => EaS w I Lv (snapE' S L) S.snaps F i wr) (fun i _ => ns - (intOf i).toNat)
   case atStart => exact ⟨⟨0, Nat.zero_le _, rfl, H0.out.1, H0.out.2⟩⟩
   case round =>
    clear H0
    obtain ⟨j, hk, rfl, hsm, hst⟩ := hrel.st
    clear hrel
    rw [← HNS.out] at hk
    have hk64 : (j : Int) ≤ 256 := by omega
    have HS := Lib.hid (And.intro hsm hst)
    clear hsm hst
    by_cases hlt : j < ns
    ·have hltd : decide ((j : Int) < (ns : Int)) = true := decide_eq_true (by omega)
     obtain ⟨x, hx⟩ : ∃ x, S.snaps[j]? = some x := ⟨_, List.getElem?_eq_getElem (by rw [← HNS.out]; exact hlt)⟩
     have hf := HS.out.2
     rw [HF.out] at hf
     have hf2 := hf.perm (show _ = ownAt TSi 4 (.slice sa ns sc) ns (S.snaps.flatMap siE) * (I (Lv ++ (S.snaps.take j).flatMap (snapE' S L)) * G) by ac_rfl)
     obtain ⟨gv, cv, e, hc⟩ := ownAt_cells hf2 (by omega)
     cases e
     have c0 := hc _ _ (flat_at siE_len S.snaps j x hx 0 _ rfl)
     have c1 := hc _ _ (flat_at siE_len S.snaps j x hx 1 _ rfl)
     have c2 := hc _ _ (flat_at siE_len S.snaps j x hx 2 _ rfl)
     have c3 := hc _ _ (flat_at siE_len S.snaps j x hx 3 _ rfl)
     rw [Nat.add_zero] at c0
     have HX := Lib.hid hx
     have HXT := Lib.hid (HWF.out.sp x (List.mem_of_getElem? hx)).ten
     have HXM := Lib.hid (HSML.out.sm x (List.mem_of_getElem? hx))
     have HFT := Lib.hid (flatTake (f := snapE' S L) hx)
     have HLL := Lib.hid (HSML.out.slen L j)
     clear hf hf2 hc hx
     have HA3 := Lib.hid (And.intro (HS.out.1.alloc (.cells zSi TSi)) (HS.out.2.alloc (.cells zSi TSi)))
     go_upto_region 11 with (first
      | ((with_reducible (refine wpList_alloc_zero ?_ TSi ?_ _ (zeroSi _) ?_)); rfl; rfl; clear c0 c1 c2 c3; generalize wr.alloc (.cells zSi TSi) = w3 at HA3 ⊢; generalize wr.heap.size = g8 at HA3 ⊢)
      | (refine wpList_store_blk (T := TSi) (old := zSi) (new := #[.int .i64 x.id, .int .i64 x.src, .int .i64 x.tenant, .int .i64 (cnt x.m : Int)]) rfl rfl rfl rfl HA3.out.2 (infoSi rfl) rfl (by simp [Value.oneCell']) ?_; intro w4 h4))
     have HW4 := Lib.hid (And.intro (HA3.out.1.trans h4.out.1) h4.out.2)
     clear h4 HA3
     have q0 : w4.cell? ⟨g8, 0, none⟩ = some (.int .i64 x.id) := by rw [cells_at HW4.out.2.block]; rfl
     have HB4 := Lib.hid (HB.out w4 (pts g8 (.cells #[.int .i64 x.id, .int .i64 x.src, .int .i64 x.tenant, .int .i64 (cnt x.m : Int)] TSi (0, 0)) * (I (Lv ++ (S.snaps.take j).flatMap (snapE' S L)) * ownAt TSi 4 (.slice (some ⟨gv, 0, none⟩) ns sc) ns (S.snaps.flatMap siE))) HW4.out.1 (HW4.out.2.perm (by rw [HF.out]; ac_rfl)))
     obtain ⟨R', hR'⟩ : ∃ R', R' = pts g8 (.cells #[.int .i64 x.id, .int .i64 x.src, .int .i64 x.tenant, .int .i64 (cnt x.m : Int)] TSi (0, 0)) * (ownAt TSi 4 (.slice (some ⟨gv, 0, none⟩) ns sc) ns (S.snaps.flatMap siE) * R) := ⟨_, rfl⟩
     have HRP := Lib.hid (show ∀ W P, Same wb W → Sat W (P * R') → Below wb.heap.size wb W from fun W P h1 h2 => HRR.out W (P * (pts g8 (.cells #[.int .i64 x.id, .int .i64 x.src, .int .i64 x.tenant, .int .i64 (cnt x.m : Int)] TSi (0, 0)) * ownAt TSi 4 (.slice (some ⟨gv, 0, none⟩) ns sc) ns (S.snaps.flatMap siE))) h1 (h2.perm (by rw [hR']; ac_rfl)))
     have HRE := Lib.hid hR'
     clear hR'
     have HVO := Lib.hid (show snapE' S L x = visL true x.id x.tenant L (imageM S x.id).1 from rfl)
     generalize (S.snaps.take j).flatMap (snapE' S L) = Lk at HW4 HFT HLL HS
     have HCX := HIM.out w4 x.id HB4.out
     generalize snapE' S L x = Lx at HFT HVO
     generalize (imageM S x.id).1 = its at HXM HVO HCX
     replace HCX := Lib.hid HCX
     go_upto_region 12 with (go_at_call 64; refine HCX.out.mono ?_; rintro e w5 ⟨r, rfl, h5, h6⟩; have HW5 := Lib.hid (And.intro (HW4.out.1.trans h5) (h6.of_all HW4.out.2)); clear h5 h6)
     have q0 : w5.cell? ⟨g8, 0, none⟩ = some (.int .i64 x.id) := by rw [cells_at (HW5.out.2.right).block]; rfl
     have q2 : w5.cell? ⟨g8, 2, none⟩ = some (.int .i64 x.tenant) := by rw [cells_at (HW5.out.2.right).block]; rfl
     have HV5 := Lib.hid (HVT.out true x.id x.tenant HXT.out r its g4 g5 (Lv ++ Lk) R' HRP.out w5 (HSM.out.trans HW5.out.1) (HW5.out.2.perm (by rw [HF.out, HG.out, HRE.out]; ac_rfl)) (by rw [List.length_append]; have := HXM.out; have := HLL.out; have := HLN.out; omega))
     go_wp2_with (go_at_call 60; refine HV5.out.mono ?_; rintro e w6 ⟨rfl, h7, h8⟩; have HW6 := Lib.hid (And.intro (HW5.out.1.trans h7) h8); clear h7 h8)
     refine ⟨⟨j + 1, by rw [← HNS.out]; omega, by push_cast; rfl, HW6.out.1, ?_⟩, by simp only [intOf]; omega⟩
     have h9 := HW6.out.2
     rw [HRE.out, ← HVO.out, List.append_assoc] at h9
     rw [HFT.out, HF.out, HG.out]
     exact (h9.perm (show _ = (ownAt TMp 2 r its.length (its.flatMap refE) * pts g8 (.cells #[.int .i64 x.id, .int .i64 x.src, .int .i64 x.tenant, .int .i64 (cnt x.m : Int)] TSi (0, 0))) * (I (Lv ++ (Lk ++ Lx)) * (ownAt TSi 4 (.slice (some ⟨gv, 0, none⟩) ns sc) ns (S.snaps.flatMap siE) * (pts g4 (.cells #[.pointer (some ⟨pt, 0, none⟩)] TPtb (0, 0)) * (pts g5 (.cells #[.func (.func f) #[] cap] TDoF (0, 0)) * R)))) by ac_rfl)).right
    ·have hke : j = ns := by omega
     subst hke
     have hltd : decide ((j : Int) < (j : Int)) = false := decide_eq_false (by omega)
     have HE := Lib.hid (show Sat wr (I (eachL S L) * R) from by
      have h := HS.out.2
      rw [HNS.out, List.take_length, HF.out, HG.out, HLV.out] at h
      exact (h.perm (show _ = (ownAt TSi 4 (.slice sa S.snaps.length sc) S.snaps.length (S.snaps.flatMap siE) * (pts g4 (.cells #[.pointer (some ⟨pt, 0, none⟩)] TPtb (0, 0)) * pts g5 (.cells #[.func (.func f) #[] cap] TDoF (0, 0)))) * (I (eachL S L) * R) by rw [HNS.out]; unfold eachL; ac_rfl)).right)
     go_wp2
     go_end0
     exact ⟨rfl, HS.out.1, HE.out⟩
end Go.Proofs.YteikbikopgabjaaGreatDoor
end
section
namespace Go.Proofs.YteikbikopgabjaaGreatDoor
open Go.RowKit Go.Sha Go.Sl Go.GF Go.Vol Go.Loss
theorem exec_bs1 {a : Act} {o : Oper} {w : World} {x : Operand} {A : Array Value} {t e : TypeId} {ti : TypeInfo} {z : Value} {k : Nat} (ho : o.op = .buildSlice t 1 #[(0, x)]) (hx : a.eval x = .agg A) (hu : Tryz.prog.underlying t = some (.slice e)) (hti : Tryz.prog.info? e = some ti) (hz : ti.zero = some z) (hts : ti.size = k)
  (hk : 0 < k) (hk2 : k ≤ 1000) (hA : A.size = k) : (execOp a.eval o).run Tryz.prog w = .ok (.value (.slice (some ⟨w.heap.size, 0, none⟩) 1 1)) (w.alloc (.cells A e)) := by
 have hf : Instr.fill (fun i => some (i * ti.size, ti.size)) ((Array.range (1 * ti.size)).map (z.cells[· % z.cells.size]!)) [(0, .agg A)] = some A := by
  rw [hts]
  have hc : ((Array.range (1 * k)).map (z.cells[· % z.cells.size]!)).size = k := by simp
  generalize (Array.range (1 * k)).map (z.cells[· % z.cells.size]!) = c at hc
  rw [fill_row _ _ _ 0 0 _ (by rw [hA, Nat.zero_mul]) (by rw [hA, hc]; omega)]
  have h := fill_all c A (by rw [hA, hc])
  rw [Instr.fill]
  simp only [Nat.zero_add]
  show some (Array.foldl _ c A.zipIdx 0 A.zipIdx.size) = _
  rw [show A.zipIdx.size = A.size by simp]
  exact congrArg some h
 have hr := run_buildSlice (P := Tryz.prog) w t e 1 #[(0, .agg A)] A ti z hu hti hz (by rw [hts]; omega) (by rw [hts]; omega) hf
 unfold execOp
 simp only [ho, List.map_toArray, List.map_cons, List.map_nil, hx, Sem.run_bind, hr, Result.andThen_ok]
 rfl
abbrev TGs : TypeId := 32
def repI (g : Nat) (Lg : List EachE) : HProp := Sl.ex fun v => pts g (.cells #[v] TGs (0, 0)) * ownAt TGn 19 v Lg.length ((Lg.map Prod.snd).flatMap gnE)
theorem gnA_one (g : GoneM) : ∀ u ∈ (gnA g).toList, u.oneCell' = true := by rw [gnA_list]; exact gnE_one g
set_option maxRecDepth 20000 in
set_option maxHeartbeats 2000000 in
theorem rep_do (g : Nat) : DoIs 35 #[.pointer (some ⟨g, 0, none⟩)] (repI g) := by
 refine ⟨fun args w => by kernel_rfl, fun F Lg t gn W hl ht1 ht2 hS => ?_⟩
 unfold repI at hS
 rw [Sat.ex] at hS
 obtain ⟨v, hS⟩ := hS
 obtain ⟨i0, hi, hz0, hz1, hz2⟩ := info_parts info_gn
 have hk : Tryz.prog.cellsOf TGn = 19 := by kernel_rfl
 obtain ⟨va, vc, rfl⟩ := ownAt_slice (hS.perm (show _ = ownAt TGn 19 v Lg.length ((Lg.map Prod.snd).flatMap gnE) * (pts g (.cells #[v] TGs (0, 0)) * F) by ac_rfl))
 have hsz := gnA_size gn
 have ho := gnA_one gn
 have hlist := gnA_list gn
 generalize gnA gn = A at hsz ho hlist ⊢
 show Calls Tryz.prog 35 #[.int .i64 t, .agg A, .pointer (some ⟨g, 0, none⟩)] W _
 obtain ⟨n, hn⟩ : ∃ n, n = Lg.length := ⟨_, rfl⟩
 rw [← hn] at hS hl
 have HN := Lib.hid hn
 clear hn
 have HW0 := Lib.hid (And.intro ((Same.refl W).alloc (.cells A TGn)) (hS.alloc (.cells A TGn)))
 have HI := Lib.hid (And.intro hi (And.intro hz0 (And.intro hz1 hz2)))
 have HA := Lib.hid (And.intro hsz (And.intro ho hlist))
 clear hS hsz ho hlist hi hz0 hz1 hz2
 go_enter Tryz.func35, Tryz.ntmps35
 go_upto_region 1 with (fail)
 generalize W.alloc (.cells A TGn) = w1 at HW0 ⊢
 generalize W.heap.size = g4 at HW0 ⊢
 have hq := HW0.out.2.perm (show _ = pts g (.cells #[.slice va n vc] TGs (0, 0)) * (pts g4 (.cells A TGn (0, 0)) * (ownAt TGn 19 (.slice va n vc) n ((Lg.map Prod.snd).flatMap gnE) * F)) by ac_rfl)
 have c0 : w1.cell? ⟨g, 0, none⟩ = some (.slice va n vc) := by rw [cells_at hq.block]; rfl
 have HLd := Lib.hid (run_loadVar_row (P := Tryz.prog) w1 g4 TGn TGn A (0, 0) _ HW0.out.2.block Tryz.underlying79 rfl (by rw [HA.out.1]; kernel_rfl))
 clear hq
 refine wp_region_lit ?_
 refine wpList_runG (v := .slice va n vc) rfl (exec_load_cell rfl rfl Tryz.underlying32 rfl c0) ?_; simp only [Act.put, zq1, zq2, zq3]
 refine wpList_runG (v := .agg A) rfl (exec_load_mid rfl rfl HLd.out) ?_; simp only [Act.put, zq1, zq2, zq3]
 have HW2 := Lib.hid (And.intro (HW0.out.1.alloc (.cells A TGn)) (HW0.out.2.alloc (.cells A TGn)))
 refine wpList_runG rfl (exec_bs1 rfl rfl Tryz.underlying32 HI.out.1 HI.out.2.1 HI.out.2.2.1 (by omega) (by omega) HA.out.1) ?_
 simp only [Act.put, zq1, zq2, zq3]
 clear c0 HLd HW0
 generalize w1.alloc (.cells A TGn) = w2 at HW2 ⊢
 generalize w1.heap.size = g7 at HW2 ⊢
 have hq2 := HW2.out.2.perm (show _ = ownAt TGn 19 (.slice va n vc) n ((Lg.map Prod.snd).flatMap gnE) * (pts g7 (.cells A TGn (0, 0)) * (pts g4 (.cells A TGn (0, 0)) * (pts g (.cells #[.slice va n vc] TGs (0, 0)) * F))) by ac_rfl)
 have hnews : ∀ j u, A.toList[j]? = some u → w2.cell? ((⟨g7, 0, none⟩ : Addr).add j) = some u := fun j u hu => by
  rw [Addr.add_mid, Nat.zero_add, cells_at HW2.out.2.block]; rwa [Array.getElem?_toList] at hu
 refine wpList_append_ownAt rfl _ _ 32 TGn rfl i0 _ Tryz.underlying32 HI.out.1 HI.out.2.1 HI.out.2.2.1 HI.out.2.2.2 rfl hq2 A.toList rfl rfl (by rw [Array.length_toList, HA.out.1]) hnews HA.out.2.1 (by unfold maxLen; omega) (by omega) ?_
 intro v' w3 h3
 simp only [Act.put, zq1, zq2, zq3]
 obtain ⟨va', vc', rfl⟩ := ownAt_slice h3.out.2
 have h4 := h3.out.2.perm (show _ = pts g (.cells #[.slice va n vc] TGs (0, 0)) * (ownAt TGn 19 (.slice va' (n + 1) vc') (n + 1) ((Lg.map Prod.snd).flatMap gnE ++ A.toList) * (pts g7 (.cells A TGn (0, 0)) * (pts g4 (.cells A TGn (0, 0)) * F))) by ac_rfl)
 have HS3 := Lib.hid (And.intro (HW2.out.1.trans h3.out.1) h4)
 clear h3 h4 hnews hq2 HW2
 obtain ⟨tis, htis, htiss⟩ := Option.map_eq_some_iff.1 (show (Tryz.prog.info? TGs).map (·.size) = some 1 from by kernel_rfl)
 have c3 := cells_at HS3.out.2.block 0
 have f3 := thawed_at HS3.out.2.block 0
 refine wpList_do (w' := w3.setCell ⟨g, 0, none⟩ (.slice va' (n + 1) vc')) rfl (exec_store_cell rfl rfl rfl htis htiss rfl c3 f3) ?_
 have h9 := HS3.out.2.setCell (i := 0) (.slice va' (n + 1) vc')
 rw [show (#[.slice va n vc] : Array Value).setIfInBounds 0 (.slice va' (n + 1) vc') = #[.slice va' (n + 1) vc'] from rfl] at h9
 have HS9 := Lib.hid (And.intro (HS3.out.1.setCell ⟨g, 0, none⟩ (.slice va' (n + 1) vc')) h9)
 clear h9 c3 f3 HS3
 generalize w3.setCell ⟨g, 0, none⟩ (.slice va' (n + 1) vc') = w9 at HS9 ⊢
 refine wpList_nil ?_
 go_wp2
 go_end0
 refine ⟨rfl, HS9.out.1, ?_⟩
 unfold repI
 rw [Sat.ex]
 refine ⟨.slice va' (n + 1) vc', ?_⟩
 have h := HS9.out.2
 rw [HA.out.2.2] at h
 rw [List.map_append, List.map_cons, List.map_nil, List.length_append, List.length_singleton, List.flatMap_append, List.flatMap_cons, List.flatMap_nil, List.append_nil, ← HN.out]
 exact (h.perm (show _ = (pts g7 (.cells A TGn (0, 0)) * pts g4 (.cells A TGn (0, 0))) * (pts g (.cells #[.slice va' (n + 1) vc'] TGs (0, 0)) * ownAt TGn 19 (.slice va' (n + 1) vc') (n + 1) ((Lg.map Prod.snd).flatMap gnE ++ gnE gn) * F) by ac_rfl)).right
def lossR (S : SpaceM) (L : List ChM) : List GoneM := (eachL S L).map Prod.snd
set_option maxRecDepth 20000 in
theorem report_any (ps : Nat) (S : SpaceM) (pt b cp : Nat) (rb : Nat → Nat) (L : List ChM) (w : World) (hS : SpaceAt TNode TSp w ps S) (hwf : S.WF) (hsml : SmallS S) (hT : TabR w pt b cp rb L) :
  Calls Tryz.prog 12 #[.pointer (some ⟨ps, 0, none⟩), .pointer (some ⟨pt, 0, none⟩)] w fun e w' => ∃ v, e = .returned v ∧ Same w w' ∧ Sat w' (ownG v (lossR S L) * old w) := by
 have h0 : Sat (w.alloc (.cells #[.slice none 0 0] TGs)) (repI w.heap.size [] * old w) := by
  unfold repI
  rw [Sat.ex]
  refine ⟨.slice none 0 0, ?_⟩
  rw [star_assoc]
  have h1 : Sat w (ownAt TGn 19 (.slice none 0 0) ([] : List EachE).length ((([] : List EachE).map Prod.snd).flatMap gnE) * old w) := ownAt_nil.2 (Sat.old w)
  exact h1.alloc _
 have HE := Lib.hid (each_any 35 #[.pointer (some ⟨w.heap.size, 0, none⟩)] (repI w.heap.size) (rep_do _) ps S pt b cp rb L (old w) w (fun W P h1 h2 => h1.below_of h2) hS hwf hsml hT (w.alloc (.cells #[.slice none 0 0] TGs)) ((Same.refl w).alloc _) h0)
 have HSM := Lib.hid ((Same.refl w).alloc (.cells #[.slice none 0 0] TGs))
 clear h0 hS hwf hsml hT
 go_enter Tryz.func12, Tryz.ntmps12
 go_upto_region 2 with (fail)
 generalize w.alloc (.cells #[.slice none 0 0] TGs) = w1 at HE HSM ⊢
 generalize w.heap.size = g at HE ⊢
 go_upto_region 3 with (go_at_call 34; refine HE.out.mono ?_; rintro e w2 ⟨rfl, h1, h2⟩; have HS2 := Lib.hid (And.intro (HSM.out.trans h1) h2); clear h1 h2)
 have h := HS2.out.2
 unfold repI at h
 rw [Sat.ex] at h
 obtain ⟨v, h⟩ := h
 rw [star_assoc] at h
 have c0 : w2.cell? ⟨g, 0, none⟩ = some v := by rw [cells_at h.block]; rfl
 have HF := Lib.hid h.right
 clear h
 obtain ⟨va, vc, rfl⟩ := ownAt_slice HF.out
 go_wp2
 go_ret
 refine ⟨_, rfl, HS2.out.1, ?_⟩
 unfold ownG lossR
 rw [List.length_map]
 exact HF.out
end Go.Proofs.YteikbikopgabjaaGreatDoor
end
