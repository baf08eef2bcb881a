import Derived.Test.YteikbikopgabjaaGreatDoorH43
import Derived.Test.YteikbikopgabjaaGreatDoorH14
/- Part 44 of a proof; the last part says what is proved. -/
namespace Go.Proofs.YteikbikopgabjaaGreatDoor
open Go.RowKit Go.Vol Go.Sl
theorem new2_any (w : World) : Calls Tryz.prog 55 #[] w fun e w' => e = .returned (.pointer (some ⟨w.heap.size, 0, none⟩)) ∧ w' = w.alloc (.cells #[.slice none 0 0, .slice none 0 0] TSp) := by
 go_enter Tryz.func55, Tryz.ntmps55
 go_wp2
 go_ret
 exact ⟨rfl, rfl⟩
theorem info_v4 : (Tryz.prog.info? TVol).map (fun i => (i.zero, i.size, i.bytes)) = some (some (.agg #[.int .i64 0, .int .i64 0, .pointer none, .int .i64 0]), 4, 32) := by kernel_rfl
theorem info_s5 : (Tryz.prog.info? TSnap).map (fun i => (i.zero, i.size, i.bytes)) = some (some (.agg #[.int .i64 0, .int .i64 0, .pointer none, .int .i64 0, .int .i64 0]), 5, 40) := by kernel_rfl
structure BvSt (Wa : World) (p : Nat) (la : List ElM) (i : Value) (wr : World) : Prop where
 st : ∃ (k : Nat) (ra : Option Addr) (rc : Nat), k ≤ la.length ∧ i = .int .i64 (k : Int) ∧ Same Wa wr ∧ Sat wr (ownAt TVol 4 (.slice ra k rc) k ((la.take k).flatMap volE) * (pts p (.cells #[.slice ra k rc, .slice none 0 0] TSp (0, 0)) * old Wa))
structure BsStG (Wa : World) (p : Nat) (v : Value) (la : List ElM) (lb : List ElC) (i : Value) (wr : World) : Prop where
 st : ∃ (k : Nat) (ra : Option Addr) (rc : Nat) (lsd : List ElM), k ≤ lb.length ∧ i = .int .i64 (k : Int) ∧ lsd.map Prod.fst = (lb.take k).map (fun x => toPart true x.1) ∧ ElsAt TNode Wa lsd ∧ (∀ x ∈ lb.take k, 0 ≤ x.1.src ∧ x.1.src < 64) ∧ Same Wa wr ∧
  Sat wr (ownAt TSnap 5 (.slice ra k rc) k (lsd.flatMap snapE) * (pts p (.cells #[v, .slice ra k rc] TSp (0, 0)) * (ownAt TVol 4 v la.length (la.flatMap volE) * old Wa)))
def BuildOut (A B : List ElC) (e : Ending) (w' : World) : Prop :=
 (validS (A.map Prod.fst) (B.map Prod.fst) ∧ ∃ q : Nat, e = .returned (.tuple #[.pointer (some ⟨q, 0, none⟩), .int .i64 0]) ∧ SpaceAt TNode TSp w' q (spaceC (A.map Prod.fst) (B.map Prod.fst))) ∨
 (¬ validS (A.map Prod.fst) (B.map Prod.fst) ∧ e = .returned (.tuple #[.pointer none, .int .i64 1]))
set_option maxRecDepth 20000 in
set_option maxHeartbeats 4000000 in
theorem buildG_any (va vb : Value) (A B : List ElC) (w : World) (hA : CntL w va A) (hB : CntL w vb B) (hnA : A.length ≤ 20) (hnB : B.length ≤ 20) (hmA : ∀ x ∈ A, x.1.maps.length ≤ 40) (hmB : ∀ x ∈ B, x.1.maps.length ≤ 40) :
  Calls Tryz.prog 31 #[va, vb] w fun e w' => Hid (Below w.heap.size w w' ∧ BuildOut A B e w') := by
 obtain ⟨bo, bcap, rfl, _⟩ := id hB.row
 have HS := Lib.hid (And.intro hA hB)
 by_cases hva : validC 64 (-1) (A.map Prod.fst)
 case neg =>
  have HCA := Lib.hid (vcont_no va A 64 w hA hnA hmA hva)
  have HNO := Lib.hid (show ¬ validS (A.map Prod.fst) (B.map Prod.fst) from fun h => hva h.1)
  by_cases hvb : validC 256 (-1) (B.map Prod.fst)
  ·have HCB := Lib.hid (fun (W : World) (hb : Below w.heap.size w W) => vcont_ok (.slice bo B.length bcap) B 256 W (hB.below hb) hnB hmB hvb)
   clear hva hvb hA hB hmA hmB
   go_enter Tryz.func31, Tryz.ntmps31
   go_upto_region 2 with (go_at_call 54; refine HCA.out.mono ?_; rintro e W1 ⟨rfl, h1⟩)
   go_upto_region 3 with (go_at_call 54; refine (HCB.out W1 h1).mono ?_; rintro e Wa ⟨b, rfl, h2⟩)
   go_wp2
   go_ret2
   exact ⟨h1.trans (h2.out.1.mono h1.size), .inr ⟨HNO.out, rfl⟩⟩
  ·have HCB := Lib.hid (fun (W : World) (hb : Below w.heap.size w W) => vcont_no (.slice bo B.length bcap) B 256 W (hB.below hb) hnB hmB hvb)
   clear hva hvb hA hB hmA hmB
   go_enter Tryz.func31, Tryz.ntmps31
   go_upto_region 2 with (go_at_call 54; refine HCA.out.mono ?_; rintro e W1 ⟨rfl, h1⟩)
   go_upto_region 3 with (go_at_call 54; refine (HCB.out W1 h1).mono ?_; rintro e Wa ⟨rfl, h2⟩)
   go_wp2
   go_ret2
   exact ⟨h1.trans (h2.mono h1.size), .inr ⟨HNO.out, rfl⟩⟩
 have HCA := Lib.hid (vcont_ok va A 64 w hA hnA hmA hva)
 by_cases hvb : validC 256 (-1) (B.map Prod.fst)
 case neg =>
  have HCB := Lib.hid (fun (W : World) (hb : Below w.heap.size w W) => vcont_no (.slice bo B.length bcap) B 256 W (hB.below hb) hnB hmB hvb)
  have HNO := Lib.hid (show ¬ validS (A.map Prod.fst) (B.map Prod.fst) from fun h => hvb h.2.1)
  clear hva hvb hA hB hmA hmB
  go_enter Tryz.func31, Tryz.ntmps31
  go_upto_region 2 with (go_at_call 54; refine HCA.out.mono ?_; rintro e W1 ⟨a, rfl, h1⟩)
  go_upto_region 3 with (go_at_call 54; refine (HCB.out W1 h1.out.1).mono ?_; rintro e Wa ⟨rfl, h2⟩)
  go_wp2
  go_ret2
  exact ⟨h1.out.1.trans (h2.mono h1.out.1.size), .inr ⟨HNO.out, rfl⟩⟩
 have HCB := Lib.hid (fun (W : World) (hb : Below w.heap.size w W) => vcont_ok (.slice bo B.length bcap) B 256 W (hB.below hb) hnB hmB hvb)
 have HVV := Lib.hid (And.intro hva hvb)
 clear hva hvb hA hB hmA hmB
 go_enter Tryz.func31, Tryz.ntmps31
 go_upto_region 2 with (go_at_call 54; refine HCA.out.mono ?_; rintro e W1 ⟨a, rfl, h1⟩)
 go_upto_region 3 with (go_at_call 54; refine (HCB.out W1 h1.out.1).mono ?_; rintro e Wa ⟨b, rfl, h2⟩)
 obtain ⟨la, hla, hra, hea⟩ := h1.out.2
 obtain ⟨lb, hlb, hrb, heb⟩ := h2.out.2
 have HA := Lib.hid (And.intro (h1.out.1.trans (h2.out.1.mono h1.out.1.size)) (And.intro (And.intro hla hlb) (And.intro (And.intro (hra.below h2.out.1) hrb) (And.intro (ElsAt.below hea h2.out.1) heb))))
 obtain ⟨ba, ca, rfl, _⟩ := id hra
 obtain ⟨bb, cb, rfl, _⟩ := id hrb
 have hlal : la.length ≤ 64 := by have h9 := congrArg List.length hla; rw [List.length_map, List.length_map] at h9; omega
 have hlbB : lb.length = B.length := by have h9 := congrArg List.length hlb; rw [List.length_map, List.length_map] at h9; exact h9
 have hlbl : lb.length ≤ 256 := by omega
 clear h1 h2 hla hlb hra hrb hea heb HCA HCB
 go_upto_region 6 with (go_at_call 55; refine (new2_any _).mono ?_; rintro e _ ⟨rfl, rfl⟩)
 have h0 := (Sat.old Wa).alloc (.cells #[.slice none 0 0, .slice none 0 0] TSp)
 have hs0 := (Same.refl Wa).alloc (.cells #[.slice none 0 0, .slice none 0 0] TSp)
 generalize Wa.alloc (.cells #[.slice none 0 0, .slice none 0 0] TSp) = W3 at h0 hs0 ⊢
 generalize Wa.heap.size = p at h0 ⊢
 have H0 := Lib.hid (And.intro hs0 h0)
 clear h0 hs0
 go_wp2
 go_loopw [35] (fun i wr => BvSt Wa p la i wr) (fun i _ => la.length - (intOf i).toNat)
 case atStart => exact ⟨⟨0, none, 0, Nat.zero_le _, rfl, H0.out.1, ownAt_nil.2 H0.out.2⟩⟩
 case round =>
  obtain ⟨k, ra, rc, hk, rfl, hsm, hs⟩ := hrel.st
  clear hrel H0
  have hbw := hsm.below_of (hs.perm (star_assoc _ _ _).symm)
  have H1 := Lib.hid (And.intro hsm hs)
  clear hsm hs
  by_cases hlt : k < la.length
  ·have hltd : decide ((k : Int) < (la.length : Int)) = true := decide_eq_true (by omega)
   have hki : (k : Int) ≤ 64 := by omega
   obtain ⟨x, hx⟩ : ∃ x, la[k]? = some x := ⟨_, List.getElem?_eq_getElem hlt⟩
   obtain ⟨xq, hxq⟩ := NodeAt.ptr (HA.out.2.2.2.1 x (List.mem_of_getElem? hx))
   obtain ⟨g, rfl, hg, e0, e1, e2, e3⟩ := vol_cells HA.out.2.2.1.1 hx
   obtain ⟨⟨xi, xt, xs, xm⟩, xv⟩ := x
   simp only at hxq
   subst hxq
   have e0 := (hbw.cell (p := ⟨g, k * 4, none⟩) hg).trans e0
   have e1 := (hbw.cell (p := ⟨g, k * 4 + 1, none⟩) hg).trans e1
   have e2 := (hbw.cell (p := ⟨g, k * 4 + 2, none⟩) hg).trans e2
   have e3 := (hbw.cell (p := ⟨g, k * 4 + 3, none⟩) hg).trans e3
   simp only at e0 e1 e2 e3
   have HX := Lib.hid hx
   clear hx hbw hg
   go_upto_region 9 with (fail)
   have h0 := H1.out.2.alloc (.cells #[.int .i64 xi, .int .i64 xt, .pointer xq, .int .i64 (cnt xm : Int)] TPt)
   have hs0 := H1.out.1.alloc (.cells #[.int .i64 xi, .int .i64 xt, .pointer xq, .int .i64 (cnt xm : Int)] TPt)
   generalize wr.alloc (.cells #[.int .i64 xi, .int .i64 xt, .pointer xq, .int .i64 (cnt xm : Int)] TPt) = W2 at h0 hs0 ⊢
   generalize wr.heap.size = B5 at h0 ⊢
   have H2 := Lib.hid (And.intro hs0 h0)
   clear h0 hs0 H1 e0 e1 e2 e3
   have hS0 : W2.drew.cell? ⟨p, 0, none⟩ = some (.slice ra k rc) ∧ W2.drew.cell? ⟨B5, 0, none⟩ = some (.int .i64 xi) ∧ W2.drew.cell? ⟨B5, 1, none⟩ = some (.int .i64 xt) ∧ W2.drew.cell? ⟨B5, 2, none⟩ = some (.pointer xq) ∧ W2.drew.cell? ⟨B5, 3, none⟩ = some (.int .i64 (cnt xm : Int)) := ⟨cells_at H2.out.2.drew.right.right.block 0, cells_at H2.out.2.drew.block 0, cells_at H2.out.2.drew.block 1, cells_at H2.out.2.drew.block 2, cells_at H2.out.2.drew.block 3⟩
   refine reg_begin (fun w' => w'.cell? ⟨p, 0, none⟩ = some (.slice ra k rc) ∧ w'.cell? ⟨B5, 0, none⟩ = some (.int .i64 xi) ∧ w'.cell? ⟨B5, 1, none⟩ = some (.int .i64 xt) ∧ w'.cell? ⟨B5, 2, none⟩ = some (.pointer xq) ∧ w'.cell? ⟨B5, 3, none⟩ = some (.int .i64 (cnt xm : Int))) (by kernel_rfl) ?_
   (apply reg_take 0 rfl rfl (by decide +kernel) rfl); (rintro w' ⟨h1, h2, h3, h4, h5⟩; go_simp; rfl); exact hS0; simp only [zq1, zq2, zq3]
   (apply reg_take 1 rfl rfl (by decide +kernel) rfl); (rintro w' ⟨h1, h2, h3, h4, h5⟩; go_simp; rfl); exact hS0; simp only [zq1, zq2, zq3]
   (apply reg_take 2 rfl rfl (by decide +kernel) rfl); (rintro w' ⟨h1, h2, h3, h4, h5⟩; go_simp; rfl); exact hS0; simp only [zq1, zq2, zq3]
   (apply reg_take 3 rfl rfl (by decide +kernel) rfl); (rintro w' ⟨h1, h2, h3, h4, h5⟩; go_simp; rfl); exact hS0; simp only [zq1, zq2, zq3]
   (apply reg_take 4 rfl rfl (by decide +kernel) rfl); (rintro w' ⟨h1, h2, h3, h4, h5⟩; go_simp; rfl); exact hS0; simp only [zq1, zq2, zq3]
   (apply reg_take 5 rfl rfl (by decide +kernel) rfl); (rintro w' ⟨h1, h2, h3, h4, h5⟩; go_simp; rfl); exact hS0; simp only [zq1, zq2, zq3]
   (apply reg_take 6 rfl rfl (by decide +kernel) rfl); (rintro w' ⟨h1, h2, h3, h4, h5⟩; go_simp; rfl); exact hS0; simp only [zq1, zq2, zq3]
   have hA4 := H2.out.2.drew.alloc (.cells #[.int .i64 xi, .int .i64 xt, .pointer xq, .int .i64 (cnt xm : Int)] TVol)
   have hsm4 := H2.out.1.drew.alloc (.cells #[.int .i64 xi, .int .i64 xt, .pointer xq, .int .i64 (cnt xm : Int)] TVol)
   have hS4 : (W2.drew.alloc (.cells #[.int .i64 xi, .int .i64 xt, .pointer xq, .int .i64 (cnt xm : Int)] TVol)).cell? ⟨p, 0, none⟩ = some (.slice ra k rc) ∧ (W2.drew.alloc (.cells #[.int .i64 xi, .int .i64 xt, .pointer xq, .int .i64 (cnt xm : Int)] TVol)).cell? ⟨B5, 0, none⟩ = some (.int .i64 xi) ∧ (W2.drew.alloc (.cells #[.int .i64 xi, .int .i64 xt, .pointer xq, .int .i64 (cnt xm : Int)] TVol)).cell? ⟨B5, 1, none⟩ = some (.int .i64 xt) ∧ (W2.drew.alloc (.cells #[.int .i64 xi, .int .i64 xt, .pointer xq, .int .i64 (cnt xm : Int)] TVol)).cell? ⟨B5, 2, none⟩ = some (.pointer xq) ∧ (W2.drew.alloc (.cells #[.int .i64 xi, .int .i64 xt, .pointer xq, .int .i64 (cnt xm : Int)] TVol)).cell? ⟨B5, 3, none⟩ = some (.int .i64 (cnt xm : Int)) := ⟨cells_at hA4.right.right.right.block 0, cells_at hA4.right.block 0, cells_at hA4.right.block 1, cells_at hA4.right.block 2, cells_at hA4.right.block 3⟩
   refine reg_run 7 (.slice (some ⟨W2.drew.heap.size, 0, none⟩) 1 1) (W2.drew.alloc (.cells #[.int .i64 xi, .int .i64 xt, .pointer xq, .int .i64 (cnt xm : Int)] TVol)) rfl rfl (by decide +kernel) rfl (by go_simp) (hS4) ?_; simp only [zq1, zq2, zq3]
   have hA5 := hA4.perm (show _ = ownAt TVol 4 (.slice ra k rc) k ((la.take k).flatMap volE) * (pts W2.drew.heap.size (.cells #[.int .i64 xi, .int .i64 xt, .pointer xq, .int .i64 (cnt xm : Int)] TVol (0, 0)) * (pts B5 (.cells #[.int .i64 xi, .int .i64 xt, .pointer xq, .int .i64 (cnt xm : Int)] TPt (0, 0)) * (pts p (.cells #[.slice ra k rc, .slice none 0 0] TSp (0, 0)) * old Wa))) from by ac_rfl)
   obtain ⟨ti, hti, hz0, hts, hz2⟩ := info_parts info_v4
   obtain ⟨v', w5, hr, hsm5, hs5⟩ := run_append_ownAt (P := Tryz.prog) 119 119 TVol ti _ Tryz.underlying119 hti hz0 (by rw [hts]; rfl) (.slice ra k rc) k ((la.take k).flatMap volE) (by rw [hts]; exact hA5) ⟨W2.drew.heap.size, 0, none⟩ 1 1 [.int .i64 xi, .int .i64 xt, .pointer xq, .int .i64 (cnt xm : Int)] (by rw [hts]; rfl)
    (by intro j u hu; rw [Addr.add_mid, cells_at hA5.right.block, Nat.zero_add]; simpa using hu) (by simp [Value.oneCell']) (by unfold maxLen; omega) (by rw [hz2]; omega)
   rw [hts] at hs5
   have hs6 := hs5.perm (show _ = pts p (.cells #[.slice ra k rc, .slice none 0 0] TSp (0, 0)) * (pts B5 (.cells #[.int .i64 xi, .int .i64 xt, .pointer xq, .int .i64 (cnt xm : Int)] TPt (0, 0)) * (ownAt TVol 4 v' (k + 1) ((la.take k).flatMap volE ++ [.int .i64 xi, .int .i64 xt, .pointer xq, .int .i64 (cnt xm : Int)]) * (pts W2.drew.heap.size (.cells #[.int .i64 xi, .int .i64 xt, .pointer xq, .int .i64 (cnt xm : Int)] TVol (0, 0)) * old Wa))) from by ac_rfl)
   have hS6 : w5.cell? ⟨p, 0, none⟩ = some (.slice ra k rc) ∧ w5.cell? ⟨B5, 0, none⟩ = some (.int .i64 xi) ∧ w5.cell? ⟨B5, 1, none⟩ = some (.int .i64 xt) ∧ w5.cell? ⟨B5, 2, none⟩ = some (.pointer xq) ∧ w5.cell? ⟨B5, 3, none⟩ = some (.int .i64 (cnt xm : Int)) := ⟨cells_at hs6.block 0, cells_at hs6.right.block 0, cells_at hs6.right.block 1, cells_at hs6.right.block 2, cells_at hs6.right.block 3⟩
   refine reg_run 8 (v') (w5) rfl rfl (by decide +kernel) rfl (exec_app27 rfl rfl rfl hr) (hS6) ?_; simp only [zq1, zq2, zq3]
   (apply reg_take 9 rfl rfl (by decide +kernel) rfl); (rintro w' ⟨h1, h2, h3, h4, h5⟩; go_simp; rfl); exact hS6; simp only [zq1, zq2, zq3]
   (apply reg_take 10 rfl rfl (by decide +kernel) rfl); (rintro w' ⟨h1, h2, h3, h4, h5⟩; go_simp; rfl); exact hS6; simp only [zq1, zq2, zq3]
   obtain ⟨ip, hip, hip2⟩ := Option.map_eq_some_iff.1 (show (Tryz.prog.info? 119).map (·.size) = some 1 by kernel_rfl)
   obtain ⟨ao', cp', rfl⟩ := ownAt_slice hs5
   refine reg_do_last 11 (w5.setCell ⟨p, 0, none⟩ (.slice ao' (k + 1) cp')) rfl rfl (by decide +kernel) rfl (exec_store_cell rfl rfl rfl hip hip2 rfl hS6.1 (thawed_at hs6.block 0)) ?_
   have h9 := hs6.setCell (i := 0) (.slice ao' (k + 1) cp')
   have hF : Sat (w5.setCell ⟨p, 0, none⟩ (.slice ao' (k + 1) cp')) (ownAt TVol 4 (.slice ao' (k + 1) cp') (k + 1) ((la.take k).flatMap volE ++ [.int .i64 xi, .int .i64 xt, .pointer xq, .int .i64 (cnt xm : Int)]) * (pts p (.cells #[(.slice ao' (k + 1) cp'), .slice none 0 0] TSp (0, 0)) * old Wa)) :=
    Sat.right (P := pts B5 (.cells #[.int .i64 xi, .int .i64 xt, .pointer xq, .int .i64 (cnt xm : Int)] TPt (0, 0)) * pts W2.drew.heap.size (.cells #[.int .i64 xi, .int .i64 xt, .pointer xq, .int .i64 (cnt xm : Int)] TVol (0, 0))) (h9.perm (by
     show pts p (.cells #[(.slice ao' (k + 1) cp'), .slice none 0 0] TSp (0, 0)) * _ = _
     ac_rfl))
   have HF := Lib.hid (And.intro ((hsm4.trans hsm5).setCell ⟨p, 0, none⟩ (.slice ao' (k + 1) cp')) hF)
   clear hS0 hS4 hS6 hA4 hA5 hsm4 hsm5 hs5 hs6 hr hti hz0 hts hz2 h9 hF hip hip2
   go_wp2
   refine ⟨⟨⟨k + 1, ao', cp', by omega, by rw [Int.natCast_add]; rfl, HF.out.1, ?_⟩⟩, by simp only [intOf]; omega⟩
   have htk : la.take (k + 1) = la.take k ++ [(⟨xi, xt, xs, xm⟩, .pointer xq)] := by rw [List.take_add_one, HX.out]; rfl
   rw [htk, List.flatMap_append]
   exact HF.out.2
  ·obtain rfl : k = la.length := by omega
   have hltd : decide ((la.length : Int) < (la.length : Int)) = false := decide_eq_false (by omega)
   rw [List.take_length] at H1
   have HK := Lib.hid (show Sat wr (ownAt TSnap 5 (.slice none 0 0) 0 [] * (pts p (.cells #[.slice ra la.length rc, .slice none 0 0] TSp (0, 0)) * (ownAt TVol 4 (.slice ra la.length rc) la.length (la.flatMap volE) * old Wa))) from ownAt_nil.2 (H1.out.2.perm (star_comm3 _ _ _)))
   have HSM := Lib.hid H1.out.1
   clear hbw H1
   go_wp2
   clear hltd hlt hk
   go_loopw [53] (fun i wr' => BsStG Wa p (.slice ra la.length rc) la B i wr') (fun i _ => B.length - (intOf i).toNat)
   case atStart => exact ⟨⟨0, none, 0, [], Nat.zero_le _, rfl, rfl, fun x hx => absurd hx (by simp), fun x hx => absurd hx (by simp), HSM.out, HK.out⟩⟩
   case round =>
    clear HSM HK
    obtain ⟨v, hv⟩ : ∃ v : Value, v = .slice ra la.length rc := ⟨_, rfl⟩
    rw [← hv] at hrel
    obtain ⟨k, ra, rc, lsd, hk, rfl, hld, hle, hlo, hsm, hs⟩ := hrel.st
    clear hrel
    have hbw := hsm.below_of (hs.perm (show _ = (ownAt TSnap 5 (.slice ra k rc) k (lsd.flatMap snapE) * (pts p (.cells #[v, .slice ra k rc] TSp (0, 0)) * ownAt TVol 4 v la.length (la.flatMap volE))) * old Wa from by ac_rfl))
    have H1 := Lib.hid (And.intro hsm hs)
    have HVQ := Lib.hid hv
    have HLD := Lib.hid (And.intro hld (And.intro hle hlo))
    clear hsm hs hv hld hle hlo
    by_cases hlt : k < lb.length
    ·have hltd : decide ((k : Int) < (lb.length : Int)) = true := decide_eq_true (by omega)
     have hki : (k : Int) ≤ 256 := by omega
     obtain ⟨x, hx⟩ : ∃ x, lb[k]? = some x := ⟨_, List.getElem?_eq_getElem hlt⟩
     obtain ⟨y, hy⟩ : ∃ y, B[k]? = some y := ⟨_, List.getElem?_eq_getElem (by omega)⟩
     have hxy : x.1 = toPart false y.1 := by
      have h9 : (lb.map Prod.fst)[k]? = some x.1 := by rw [List.getElem?_map, hx]; rfl
      rw [HA.out.2.1.2, List.getElem?_map, hy] at h9
      exact (Option.some.inj h9).symm
     have hNA := HA.out.2.2.2.2 x (List.mem_of_getElem? hx)
     obtain ⟨xq, hxq⟩ := NodeAt.ptr hNA
     obtain ⟨g, rfl, hg, e0, e1, e2, e3⟩ := vol_cells HA.out.2.2.1.2 hx
     obtain ⟨g2, off, rfl, hg2, _, _, y2, _⟩ := c_cells HS.out.2.row hy
     obtain ⟨xp, xv⟩ := x
     simp only at hxq hxy
     subst hxq
     subst hxy
     obtain ⟨⟨xi, xt, xs, its⟩, yv⟩ := y
     simp only [toPart] at e0 e1 e2 e3 y2 hNA
     have e0 := (hbw.cell (p := ⟨g, k * 4, none⟩) hg).trans e0
     have e1 := (hbw.cell (p := ⟨g, k * 4 + 1, none⟩) hg).trans e1
     have e2 := (hbw.cell (p := ⟨g, k * 4 + 2, none⟩) hg).trans e2
     have e3 := (hbw.cell (p := ⟨g, k * 4 + 3, none⟩) hg).trans e3
     obtain ⟨xm, hxm⟩ : ∃ xm, xm = addL its := ⟨_, rfl⟩
     rw [← hxm] at e3 hNA
     have HXM := Lib.hid (And.intro hxm hNA)
     clear hxm hNA
     have hbS := HA.out.1.trans (hbw.mono HA.out.1.size)
     have hltd2 : decide ((k : Int) < (B.length : Int)) = true := decide_eq_true (by omega)
     have hlt2 : k < B.length := by omega
     have HX := Lib.hid (And.intro hx hy)
     have HY := Lib.hid (And.intro hg2 (And.intro y2 hbS))
     clear hx hy hbw hg hbS hg2 y2
     go_upto_region 14 with (fail)
     have h0 := H1.out.2.alloc (.cells #[.int .i64 xi, .int .i64 xt, .pointer xq, .int .i64 (cnt xm : Int)] TPt)
     have hs0 := H1.out.1.alloc (.cells #[.int .i64 xi, .int .i64 xt, .pointer xq, .int .i64 (cnt xm : Int)] TPt)
     have hb9 := (Below.refl wr.heap.size wr).alloc (Nat.le_refl _) (.cells #[.int .i64 xi, .int .i64 xt, .pointer xq, .int .i64 (cnt xm : Int)] TPt)
     have y2 : (wr.alloc (.cells #[.int .i64 xi, .int .i64 xt, .pointer xq, .int .i64 (cnt xm : Int)] TPt)).cell? ⟨g2, off + k * 4 + 2, none⟩ = some (.int .i64 xs) := ((HY.out.2.2.trans (hb9.mono HY.out.2.2.size)).cell (p := ⟨g2, off + k * 4 + 2, none⟩) HY.out.1).trans HY.out.2.1
     have hb9' := hb9
     clear hb9
     generalize wr.alloc (.cells #[.int .i64 xi, .int .i64 xt, .pointer xq, .int .i64 (cnt xm : Int)] TPt) = W2 at h0 hs0 y2 hb9' ⊢
     have hbw9 := hb9'
     clear hbw9
     generalize wr.heap.size = B5 at h0 ⊢
     have H2 := Lib.hid (And.intro hs0 h0)
     clear h0 hs0 H1 e0 e1 e2 e3
     have HBE := Lib.hid (HY.out.2.2.trans (hb9'.mono HY.out.2.2.size))
     clear hb9'
     by_cases hf1 : xs < 0
     ·have t1 : decide (xs < 0) = true := decide_eq_true hf1
      have HNO := Lib.hid (show ¬ validS (A.map Prod.fst) (B.map Prod.fst) from fun h => by
       have := h.2.2 _ (List.mem_of_getElem? (show (B.map Prod.fst)[k]? = some ⟨xi, xt, xs, its⟩ by rw [List.getElem?_map, HX.out.2]; rfl))
       simp only at this
       omega)
      clear hf1
      go_wp2
      go_ret2
      exact ⟨HBE.out, .inr ⟨HNO.out, rfl⟩⟩
     have t1 : decide (xs < 0) = false := decide_eq_false hf1
     by_cases hf2 : (64 : Int) ≤ xs
     ·have t2 : decide ((64 : Int) ≤ xs) = true := decide_eq_true hf2
      have HNO := Lib.hid (show ¬ validS (A.map Prod.fst) (B.map Prod.fst) from fun h => by
       have := h.2.2 _ (List.mem_of_getElem? (show (B.map Prod.fst)[k]? = some ⟨xi, xt, xs, its⟩ by rw [List.getElem?_map, HX.out.2]; rfl))
       simp only at this
       omega)
      clear hf1 hf2
      go_wp2
      go_ret2
      exact ⟨HBE.out, .inr ⟨HNO.out, rfl⟩⟩
     have t2 : decide ((64 : Int) ≤ xs) = false := decide_eq_false hf2
     have HSR := Lib.hid (show 0 ≤ xs ∧ xs < 64 from ⟨by omega, by omega⟩)
     clear hf1 hf2
     go_upto_region 17 with (fail)
     clear y2 t1 t2
     have hS0 : W2.drew.cell? ⟨p, 1, none⟩ = some (.slice ra k rc) ∧ W2.drew.cell? ⟨B5, 0, none⟩ = some (.int .i64 xi) ∧ W2.drew.cell? ⟨B5, 1, none⟩ = some (.int .i64 xt) ∧ W2.drew.cell? ⟨B5, 2, none⟩ = some (.pointer xq) ∧ W2.drew.cell? ⟨B5, 3, none⟩ = some (.int .i64 (cnt xm : Int)) := ⟨cells_at H2.out.2.drew.right.right.block 1, cells_at H2.out.2.drew.block 0, cells_at H2.out.2.drew.block 1, cells_at H2.out.2.drew.block 2, cells_at H2.out.2.drew.block 3⟩
     refine reg_begin (fun w' => w'.cell? ⟨p, 1, none⟩ = some (.slice ra k rc) ∧ w'.cell? ⟨B5, 0, none⟩ = some (.int .i64 xi) ∧ w'.cell? ⟨B5, 1, none⟩ = some (.int .i64 xt) ∧ w'.cell? ⟨B5, 2, none⟩ = some (.pointer xq) ∧ w'.cell? ⟨B5, 3, none⟩ = some (.int .i64 (cnt xm : Int))) (by kernel_rfl) ?_
     (apply reg_take 0 rfl rfl (by decide +kernel) rfl); (rintro w' ⟨h1, h2, h3, h4, h5⟩; go_simp; rfl); exact hS0; simp only [zq1, zq2, zq3]
     (apply reg_take 1 rfl rfl (by decide +kernel) rfl); (rintro w' ⟨h1, h2, h3, h4, h5⟩; go_simp; rfl); exact hS0; simp only [zq1, zq2, zq3]
     (apply reg_take 2 rfl rfl (by decide +kernel) rfl); (rintro w' ⟨h1, h2, h3, h4, h5⟩; go_simp; rfl); exact hS0; simp only [zq1, zq2, zq3]
     (apply reg_take 3 rfl rfl (by decide +kernel) rfl); (rintro w' ⟨h1, h2, h3, h4, h5⟩; go_simp; rfl); exact hS0; simp only [zq1, zq2, zq3]
     (apply reg_take 4 rfl rfl (by decide +kernel) rfl); (rintro w' ⟨h1, h2, h3, h4, h5⟩; go_simp; rfl); exact hS0; simp only [zq1, zq2, zq3]
     (apply reg_take 5 rfl rfl (by decide +kernel) rfl); (rintro w' ⟨h1, h2, h3, h4, h5⟩; go_simp; rfl); exact hS0; simp only [zq1, zq2, zq3]
     (apply reg_take 6 rfl rfl (by decide +kernel) rfl); (rintro w' ⟨h1, h2, h3, h4, h5⟩; go_simp; rfl); exact hS0; simp only [zq1, zq2, zq3]
     (apply reg_take 7 rfl rfl (by decide +kernel) rfl); (rintro w' ⟨h1, h2, h3, h4, h5⟩; go_simp; rfl); exact hS0; simp only [zq1, zq2, zq3]
     have hA4 := H2.out.2.drew.alloc (.cells #[.int .i64 xi, .int .i64 xt, .pointer xq, .int .i64 (cnt xm : Int), .int .i64 xs] TSnap)
     have hsm4 := H2.out.1.drew.alloc (.cells #[.int .i64 xi, .int .i64 xt, .pointer xq, .int .i64 (cnt xm : Int), .int .i64 xs] TSnap)
     have hS4 : (W2.drew.alloc (.cells #[.int .i64 xi, .int .i64 xt, .pointer xq, .int .i64 (cnt xm : Int), .int .i64 xs] TSnap)).cell? ⟨p, 1, none⟩ = some (.slice ra k rc) ∧ (W2.drew.alloc (.cells #[.int .i64 xi, .int .i64 xt, .pointer xq, .int .i64 (cnt xm : Int), .int .i64 xs] TSnap)).cell? ⟨B5, 0, none⟩ = some (.int .i64 xi) ∧ (W2.drew.alloc (.cells #[.int .i64 xi, .int .i64 xt, .pointer xq, .int .i64 (cnt xm : Int), .int .i64 xs] TSnap)).cell? ⟨B5, 1, none⟩ = some (.int .i64 xt) ∧ (W2.drew.alloc (.cells #[.int .i64 xi, .int .i64 xt, .pointer xq, .int .i64 (cnt xm : Int), .int .i64 xs] TSnap)).cell? ⟨B5, 2, none⟩ = some (.pointer xq) ∧ (W2.drew.alloc (.cells #[.int .i64 xi, .int .i64 xt, .pointer xq, .int .i64 (cnt xm : Int), .int .i64 xs] TSnap)).cell? ⟨B5, 3, none⟩ = some (.int .i64 (cnt xm : Int)) := ⟨cells_at hA4.right.right.right.block 1, cells_at hA4.right.block 0, cells_at hA4.right.block 1, cells_at hA4.right.block 2, cells_at hA4.right.block 3⟩
     refine reg_run 8 (.slice (some ⟨W2.drew.heap.size, 0, none⟩) 1 1) (W2.drew.alloc (.cells #[.int .i64 xi, .int .i64 xt, .pointer xq, .int .i64 (cnt xm : Int), .int .i64 xs] TSnap)) rfl rfl (by decide +kernel) rfl (by go_simp) (hS4) ?_; simp only [zq1, zq2, zq3]
     have hA5 := hA4.perm (show _ = ownAt TSnap 5 (.slice ra k rc) k (lsd.flatMap snapE) * (pts W2.drew.heap.size (.cells #[.int .i64 xi, .int .i64 xt, .pointer xq, .int .i64 (cnt xm : Int), .int .i64 xs] TSnap (0, 0)) * (pts B5 (.cells #[.int .i64 xi, .int .i64 xt, .pointer xq, .int .i64 (cnt xm : Int)] TPt (0, 0)) * (pts p (.cells #[v, .slice ra k rc] TSp (0, 0)) * (ownAt TVol 4 v la.length (la.flatMap volE) * old Wa)))) from by ac_rfl)
     obtain ⟨ti, hti, hz0, hts, hz2⟩ := info_parts info_s5
     obtain ⟨v', w5, hr, hsm5, hs5⟩ := run_append_ownAt (P := Tryz.prog) 120 120 TSnap ti _ Tryz.underlying120 hti hz0 (by rw [hts]; rfl) (.slice ra k rc) k (lsd.flatMap snapE) (by rw [hts]; exact hA5) ⟨W2.drew.heap.size, 0, none⟩ 1 1 [.int .i64 xi, .int .i64 xt, .pointer xq, .int .i64 (cnt xm : Int), .int .i64 xs] (by rw [hts]; rfl)
      (by intro j u hu; rw [Addr.add_mid, cells_at hA5.right.block, Nat.zero_add]; simpa using hu) (by simp [Value.oneCell']) (by unfold maxLen; omega) (by rw [hz2]; omega)
     rw [hts] at hs5
     have hs6 := hs5.perm (show _ = pts p (.cells #[v, .slice ra k rc] TSp (0, 0)) * (pts B5 (.cells #[.int .i64 xi, .int .i64 xt, .pointer xq, .int .i64 (cnt xm : Int)] TPt (0, 0)) * (ownAt TSnap 5 v' (k + 1) (lsd.flatMap snapE ++ [.int .i64 xi, .int .i64 xt, .pointer xq, .int .i64 (cnt xm : Int), .int .i64 xs]) * (pts W2.drew.heap.size (.cells #[.int .i64 xi, .int .i64 xt, .pointer xq, .int .i64 (cnt xm : Int), .int .i64 xs] TSnap (0, 0)) * (ownAt TVol 4 v la.length (la.flatMap volE) * old Wa)))) from by ac_rfl)
     have hS6 : w5.cell? ⟨p, 1, none⟩ = some (.slice ra k rc) ∧ w5.cell? ⟨B5, 0, none⟩ = some (.int .i64 xi) ∧ w5.cell? ⟨B5, 1, none⟩ = some (.int .i64 xt) ∧ w5.cell? ⟨B5, 2, none⟩ = some (.pointer xq) ∧ w5.cell? ⟨B5, 3, none⟩ = some (.int .i64 (cnt xm : Int)) := ⟨cells_at hs6.block 1, cells_at hs6.right.block 0, cells_at hs6.right.block 1, cells_at hs6.right.block 2, cells_at hs6.right.block 3⟩
     refine reg_run 9 (v') (w5) rfl rfl (by decide +kernel) rfl (exec_app27 rfl rfl rfl hr) (hS6) ?_; simp only [zq1, zq2, zq3]
     (apply reg_take 10 rfl rfl (by decide +kernel) rfl); (rintro w' ⟨h1, h2, h3, h4, h5⟩; go_simp; rfl); exact hS6; simp only [zq1, zq2, zq3]
     (apply reg_take 11 rfl rfl (by decide +kernel) rfl); (rintro w' ⟨h1, h2, h3, h4, h5⟩; go_simp; rfl); exact hS6; simp only [zq1, zq2, zq3]
     obtain ⟨ip, hip, hip2⟩ := Option.map_eq_some_iff.1 (show (Tryz.prog.info? 120).map (·.size) = some 1 by kernel_rfl)
     obtain ⟨ao', cp', rfl⟩ := ownAt_slice hs5
     refine reg_do_last 12 (w5.setCell ⟨p, 1, none⟩ (.slice ao' (k + 1) cp')) rfl rfl (by decide +kernel) rfl (exec_store_cell rfl rfl rfl hip hip2 rfl hS6.1 (thawed_at hs6.block 1)) ?_
     have h9 := hs6.setCell (i := 1) (.slice ao' (k + 1) cp')
     have hF : Sat (w5.setCell ⟨p, 1, none⟩ (.slice ao' (k + 1) cp')) (ownAt TSnap 5 (.slice ao' (k + 1) cp') (k + 1) (lsd.flatMap snapE ++ [.int .i64 xi, .int .i64 xt, .pointer xq, .int .i64 (cnt xm : Int), .int .i64 xs]) * (pts p (.cells #[v, (.slice ao' (k + 1) cp')] TSp (0, 0)) * (ownAt TVol 4 v la.length (la.flatMap volE) * old Wa))) :=
      Sat.right (P := pts B5 (.cells #[.int .i64 xi, .int .i64 xt, .pointer xq, .int .i64 (cnt xm : Int)] TPt (0, 0)) * pts W2.drew.heap.size (.cells #[.int .i64 xi, .int .i64 xt, .pointer xq, .int .i64 (cnt xm : Int), .int .i64 xs] TSnap (0, 0))) (h9.perm (by
       show pts p (.cells #[v, (.slice ao' (k + 1) cp')] TSp (0, 0)) * _ = _
       ac_rfl))
     have HF := Lib.hid (And.intro ((hsm4.trans hsm5).setCell ⟨p, 1, none⟩ (.slice ao' (k + 1) cp')) hF)
     clear hS0 hS4 hS6 hA4 hA5 hsm4 hsm5 hs5 hs6 hr hti hz0 hts hz2 h9 hF hip hip2
     go_wp2
     refine ⟨⟨⟨k + 1, ao', cp', lsd ++ [(toPart true ⟨xi, xt, xs, its⟩, .pointer xq)], by omega, by rw [Int.natCast_add]; rfl, ?_, ?_, ?_, HF.out.1, ?_⟩⟩, by simp only [intOf]; omega⟩
     ·rw [List.map_append, HLD.out.1, List.take_add_one, HX.out.2, Option.toList_some, List.map_append]; rfl
     ·intro z hz
      rcases List.mem_append.1 hz with hz | hz
      ·exact HLD.out.2.1 z hz
      ·obtain rfl : z = _ := List.mem_singleton.1 hz
       have h9 := HXM.out.2
       rw [HXM.out.1] at h9
       exact h9
     ·intro z hz
      rw [List.take_add_one, HX.out.2, Option.toList_some] at hz
      rcases List.mem_append.1 hz with hz | hz
      ·exact HLD.out.2.2 z hz
      ·obtain rfl : z = _ := List.mem_singleton.1 hz
       exact HSR.out
     ·rw [List.flatMap_append, ← HVQ.out]
      have h9 := HF.out.2
      rw [HXM.out.1] at h9
      exact h9
    ·have hkB : k = B.length := by omega
     have hkb : k = lb.length := by omega
     subst hkb
     have hltd : decide ((lb.length : Int) < (lb.length : Int)) = false := decide_eq_false (by omega)
     have hlsd : lsd.map Prod.fst = B.map (fun x => toPart true x.1) := by have h9 := HLD.out.1; rwa [hkB, List.take_length] at h9
     have hlo : ∀ x ∈ B, 0 ≤ x.1.src ∧ x.1.src < 64 := by have h9 := HLD.out.2.2; rwa [hkB, List.take_length] at h9
     have hll : lsd.length = lb.length := by have h9 := congrArg List.length hlsd; rw [List.length_map, List.length_map] at h9; omega
     have HFI := Lib.hid (And.intro hlsd (And.intro hlo hll))
     clear hlsd hlo hll hkB
     have HBF := Lib.hid hbw
     clear hbw
     go_wp2
     go_ret2
     refine ⟨HA.out.1.trans (HBF.out.mono HA.out.1.size), .inl ⟨⟨HVV.out.1, HVV.out.2, fun x hx => ?_⟩, p, rfl, la, lsd, ?_, ?_, ⟨⟨v, .slice ra lb.length rc, H1.out.2.right.block, ?_, ?_⟩, ElsAt.below HA.out.2.2.2.1 HBF.out, ElsAt.below HLD.out.2.1 HBF.out⟩⟩⟩
     ·obtain ⟨y, hy, rfl⟩ := List.mem_map.1 hx
      exact HFI.out.2.1 y hy
     ·rw [HA.out.2.1.1]; unfold spaceC; simp only [List.map_map]; rfl
     ·rw [HFI.out.1]; unfold spaceC; simp only [List.map_map]; rfl
     ·exact RowsAt.own H1.out.2.right.right (by omega)
     ·rw [HFI.out.2.2]; exact RowsAt.own H1.out.2 (by omega)
end Go.Proofs.YteikbikopgabjaaGreatDoor
