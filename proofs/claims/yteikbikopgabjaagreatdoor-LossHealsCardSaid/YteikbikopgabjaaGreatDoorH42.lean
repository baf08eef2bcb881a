import Derived.Test.YteikbikopgabjaaGreatDoorH41
/- Part 42 of a proof; the last part says what is proved. -/
namespace Go.GF
open Go Go.RowKit
theorem allB_one {m : Nat} {x : Int} (h : allB (m : Int) [x] = true) : 0 ≤ x ∧ x < ((2 ^ m : Nat) : Int) := by
 unfold allB elB at h
 simp only [List.all_cons, List.all_nil, Bool.and_true, Int.toNat_natCast, Bool.and_eq_true, decide_eq_true_eq] at h
 refine ⟨h.2.1, ?_⟩
 rw [Int.natCast_pow]
 exact h.2.2
theorem code_valid {nm : ByteArray} {f k : Int} {pv : Value} {L : List (List Int)} {dom : Int} {w : World} (h : validE f k L = true) (hp : RowsI w pv L) : CodeAt w (codeV nm f k pv dom) (codeM f k L) ∧ ((codeM f k L).n : Int) = k + (L.length : Int) := by
 have hv := h
 unfold validE at h
 simp only [Bool.and_eq_true, decide_eq_true_eq, List.all_eq_true] at h
 obtain ⟨ha, h1, hl, hw, hr⟩ := h
 obtain ⟨m, hm, rfl⟩ : ∃ m : Nat, isF m ∧ f = (m : Int) := by
  rcases modI_cases f with ⟨h0, -⟩ | ⟨m, hm, rfl, -⟩
  ·unfold allB at ha
   rw [h0] at ha
   simp at ha
  ·exact ⟨m, hm, rfl⟩
 have hrow : ∀ r ∈ L, (r.length : Int) = k ∧ ∀ x ∈ r, 0 ≤ x ∧ x < ((2 ^ m : Nat) : Int) := fun r hr' => by
  have h2 := hr r hr'
  unfold rowE at h2
  simp only [Bool.and_eq_true, decide_eq_true_eq, List.all_eq_true] at h2
  exact ⟨h2.1, fun x hx => allB_one (h2.2.1 x hx)⟩
 have hpar : (codeM (m : Int) k L).par.map natsI = L := by
  unfold codeM
  rw [List.map_map]
  conv => rhs; rw [← List.map_id L]
  exact List.map_congr_left fun r hr' => natsI_toNat fun x hx => ((hrow r hr').2 x hx).1
 have hkn : ((codeM (m : Int) k L).k : Int) = k := by show ((k.toNat : Nat) : Int) = k; omega
 have hmn : (codeM (m : Int) k L).m = m := Int.toNat_natCast m
 have hn : ((codeM (m : Int) k L).n : Int) = k + (L.length : Int) := by rw [codeM_n]; omega
 refine ⟨⟨⟨nm, pv, dom, by rw [hkn, hmn], by rw [hpar]; exact hp⟩, ⟨by rw [hmn]; exact hm, by omega, ?_⟩, by omega, ?_⟩, hn⟩
 ·intro r hr'
  obtain ⟨r', hr1, rfl⟩ := List.mem_map.1 hr'
  obtain ⟨a, b⟩ := hrow r' hr1
  refine ⟨by rw [List.length_map]; omega, fun x hx => ?_⟩
  obtain ⟨x', hx', rfl⟩ := List.mem_map.1 hx
  have := b x' hx'
  rw [hmn]; omega
 ·rw [hpar, hkn, hmn]; exact hv
end Go.GF
namespace Go.Proofs.YteikbikopgabjaaGreatDoor
open Go.RowKit Go.Sl Go.GF Go.Vol
set_option maxRecDepth 20000 in
theorem width_no (nm : ByteArray) (f k : Int) (pv : Value) (dom : Int) (L : List (List Int)) (w : World) (hT : TabF w) (hp : RowsI w pv L) (hk63 : -9223372036854775808 ≤ k ∧ k ≤ 9223372036854775807) (hval : validE f k L = false) :
  Calls Tryz.prog 40 #[.agg (codeV nm f k pv dom)] w fun e w' => e = .returned (.int .i64 0) ∧ Below w.heap.size w w' := by
 have HV := Lib.hid (fun t => evalid_any nm f k pv dom L (w.alloc (.cells (codeV nm f k pv dom) t)) (hT.below (al_below w _)) (hp.below (al_below w _)) hk63)
 rw [hval] at HV
 have HB := Lib.hid (fun t w1 h => code_box w w1 (codeV nm f k pv dom) t h)
 clear hp hT hval hk63
 unfold codeV at *
 go_enter Tryz.func40, Tryz.ntmps40
 go_wp2_with (go_at_call 66; refine (HV.out _).mono ?_; rintro e w1 ⟨rfl, h1⟩; obtain ⟨hg, hb⟩ := HB.out _ w1 h1)
 go_ret
 exact ⟨rfl, hb⟩
def badU (n : Int) (u : Int) : Bool := decide (u < 0) || decide (n ≤ u)
def unrB (f k : Int) (L : List (List Int)) (h : List Bool) (live : List Int) : Bool := validE f k L && (decide (h.length = (codeM f k L).n) && !(live.any (badU ((codeM f k L).n : Int))))
def unrF (c : CodeM) (h : List Bool) (live : List Int) : List Int := live.filter fun u => !recR c h u.toNat
def unrL (f k : Int) (L : List (List Int)) (h : List Bool) (live : List Int) : List Int := if unrB f k L h live then unrF (codeM f k L) h live else []
def errU (b : Bool) : Int := if b then 0 else 1
theorem unrF_snoc (c : CodeM) (h : List Bool) {live : List Int} {k : Nat} {u : Int} (hu : live[k]? = some u) : unrF c h (live.take (k + 1)) = if recR c h u.toNat then unrF c h (live.take k) else unrF c h (live.take k) ++ [u] := by
 unfold unrF
 rw [List.take_add_one, hu, Option.toList_some, List.filter_append]
 cases hr : recR c h u.toNat <;> simp [hr]
theorem unrF_len (c : CodeM) (h : List Bool) (live : List Int) (k : Nat) : (unrF c h (live.take k)).length ≤ live.length := by
 unfold unrF
 have h1 := List.length_filter_le (fun u => !recR c h u.toNat) (live.take k)
 rw [List.length_take] at h1
 omega
set_option maxRecDepth 20000 in
theorem unr1_any (x n : Int) (g : Nat) (w : World) (hg : w.cell? ⟨g, 0, none⟩ = some (.int .i64 n)) : Calls Tryz.prog 42 #[.int .i64 x, .pointer (some ⟨g, 0, none⟩)] w fun e w' => e = .returned (.bool (badU n x)) ∧ Below w.heap.size w w' := by
 unfold badU
 by_cases h0 : x < 0
 ·have h0d : decide (x < 0) = true := decide_eq_true h0
  rw [h0d, Bool.true_or]
  go_enter Tryz.func42, Tryz.ntmps42
  go_wp2
  go_ret
  exact ⟨rfl, Below.refl _ _⟩
 ·have h0d : decide (x < 0) = false := decide_eq_false h0
  rw [h0d, Bool.false_or]
  go_enter Tryz.func42, Tryz.ntmps42
  go_wp2
  go_ret
  exact ⟨rfl, Below.refl _ _⟩
theorem unr1_run (args : Array Value) (w : World) : (callFunc 42 args).run Tryz.prog w = .ok (.enter 42 args) w := by kernel_rfl
structure UnrS (w1 : World) (n : Nat) (g : Nat → List Int) (tv iv : Value) (wr : World) : Prop where
 st : ∃ k : Nat, k ≤ n ∧ iv = .int .i64 (k : Int) ∧ Same w1 wr ∧ Sat wr (ownAt TI 1 tv (g k).length (intsV (g k)) * old w1)
set_option maxRecDepth 20000 in
set_option maxHeartbeats 4000000 in
theorem unrec_any (nm : ByteArray) (f k : Int) (pv : Value) (dom : Int) (L : List (List Int)) (hk63 : -9223372036854775808 ≤ k ∧ k ≤ 9223372036854775807) (hv lv : Value) (h : List Bool) (live : List Int) (hll : live.length ≤ 1000) (w : World) (hT : TabF w) (hp : RowsI w pv L) (hr : RowI w hv (boolsV h)) (hlv : RowI w lv (intsV live)) :
  Calls Tryz.prog 21 #[.agg (codeV nm f k pv dom), hv, lv] w fun e w' => ∃ v, e = .returned (.tuple #[v, .int .i64 (errU (unrB f k L h live))]) ∧ Same w w' ∧ Sat w' (ownAt TI 1 v (unrL f k L h live).length (intsV (unrL f k L h live)) * old w) := by
 have HCB := Lib.hid (fun t w1 h => code_box w w1 (codeV nm f k pv dom) t h)
 have hnil : ∀ W, Below w.heap.size w W → Same w W ∧ Sat W (ownAt TI 1 (.slice none 0 0) ([] : List Int).length (intsV []) * old w) := fun W hb => ⟨(Same.refl w).below hb, ownAt_nil.2 ((Sat.old w).below hb)⟩
 have HNIL := Lib.hid hnil
 clear hnil
 obtain ⟨ah, ch, rfl, -⟩ := id hr
 rw [boolsV_len] at *
 by_cases hval : validE f k L = true
 rotate_left
 ·have hvf : validE f k L = false := by simpa using hval
  have hub : unrB f k L h live = false := by unfold unrB; rw [hvf, Bool.false_and]
  have hul : unrL f k L h live = [] := by unfold unrL; rw [hub]; rfl
  rw [hub, hul]
  have HW := Lib.hid (fun t => width_no nm f k pv dom L (w.alloc (.cells (codeV nm f k pv dom) t)) (hT.below (al_below w _)) (hp.below (al_below w _)) hk63 hvf)
  clear hp hT hr hlv hk63 hub hul hvf hval
  unfold codeV at *
  go_enter Tryz.func21, Tryz.ntmps21
  go_wp2_with (go_at_call 40; refine (HW.out _).mono ?_; rintro e w1 ⟨rfl, h1⟩; have HB := Lib.hid (HCB.out _ w1 h1).2)
  go_ret2
  exact ⟨_, rfl, HNIL.out _ (HB.out.alloc HB.out.size _)⟩
 ·obtain ⟨hca, hcn⟩ := code_valid (nm := nm) (dom := dom) hval hp
  obtain ⟨c, hc⟩ : ∃ c, c = codeM f k L := ⟨_, rfl⟩
  have HW := Lib.hid (fun t => width_any (codeV nm f k pv dom) (codeM f k L) (w.alloc (.cells (codeV nm f k pv dom) t)) (hT.below (al_below w _)) (hca.below (al_below w _)))
  have HRV := Lib.hid (fun (hl : h.length = (codeM f k L).n) u (hu : u < (codeM f k L).n) W (hb : Below w.heap.size w W) => recov_any (codeV nm f k pv dom) (codeM f k L) (.slice ah h.length ch) h hl u hu W (hT.below hb) (hca.below hb) (hr.below hb))
  have HLV := Lib.hid (fun n g W (hb : Below w.heap.size w W) (hg : W.cell? ⟨g, 0, none⟩ = some (.int .i64 n)) => containsf_any lv live 42 #[.pointer (some ⟨g, 0, none⟩)] (badU n) W unr1_run (hlv.below hb) (fun x _ W' hb' => by
   have h := unr1_any x n g W' ((hb'.cell (p := ⟨g, 0, none⟩) (World.block_lt_of_cell? _ _ hg)).trans hg)
   exact h))
  have HRL := Lib.hid (fun W (hb : Below w.heap.size w W) => hlv.below hb)
  have hn0 : 0 < (codeM f k L).n := by have := hca.ok.pos; unfold CodeM.n; omega
  have hn32 := hca.n32
  have HUB := Lib.hid (show unrB f k L h live = (decide (h.length = (codeM f k L).n) && !(live.any (badU ((codeM f k L).n : Int)))) by unfold unrB; rw [hval, Bool.true_and])
  have HUL := Lib.hid (show unrL f k L h live = if unrB f k L h live then unrF (codeM f k L) h live else [] from rfl)
  obtain ⟨b, hb⟩ : ∃ b, b = unrB f k L h live := ⟨_, rfl⟩
  obtain ⟨R, hR⟩ : ∃ R, R = unrL f k L h live := ⟨_, rfl⟩
  rw [← hb] at HUB HUL ⊢
  rw [← hR] at HUL ⊢
  obtain ⟨al, cl, rfl, -⟩ := id hlv
  rw [intsV_len] at *
  rw [← hc] at HW HRV HUB HUL hn0 hn32
  clear hca hcn hc hp hT hr hlv hk63 hval hb hR
  obtain ⟨n, hn⟩ : ∃ n, n = c.n := ⟨_, rfl⟩
  have HNE := Lib.hid hn
  rw [← hn] at HW hn0 hn32 HUB
  clear hn
  have hn0d : ((n : Int) == 0) = false := by simp; omega
  unfold codeV at HW HRV HCB ⊢
  by_cases hlen : h.length = n
  rotate_left
  ·have hq : decide ((h.length : Int) = (n : Int)) = false := decide_eq_false (by omega)
   have hq2 : ((h.length : Int) != (n : Int)) = true := by simp; omega
   have hbf := HUB.out
   rw [decide_eq_false hlen, Bool.false_and] at hbf
   have HBF := Lib.hid hbf
   clear hbf hlen
   go_enter Tryz.func21, Tryz.ntmps21
   go_wp2_with (go_at_call 40; refine (HW.out _).mono ?_; rintro e w1 ⟨rfl, h1⟩; have HB := Lib.hid (HCB.out _ w1 h1).2)
   go_ret2
   have hRn := HUL.out
   rw [HBF.out] at hRn
   rw [HBF.out, hRn]
   exact ⟨_, rfl, HNIL.out _ (HB.out.alloc HB.out.size _)⟩
  ·have hq2 : ((h.length : Int) != (n : Int)) = false := by simp; omega
   have hub := HUB.out
   rw [decide_eq_true hlen, Bool.true_and] at hub
   rcases Bool.eq_false_or_eq_true (live.any (badU (n : Int))) with han | han
   ·rw [han] at hub
    have HBF := Lib.hid hub
    have HAN := Lib.hid han
    clear hub han HUB
    go_enter Tryz.func21, Tryz.ntmps21
    go_wp2_with (first
     | (go_at_call 40; refine (HW.out _).mono ?_; rintro e w1 ⟨rfl, h1⟩; have HB := Lib.hid (HCB.out _ w1 h1).2)
     | (go_at_call 41; refine (HLV.out (n : Int) _ _ (HB.out.alloc HB.out.size _) (by rw [cells_at (((Sat.old w1).alloc (.cells #[.int .i64 (n : Int)] TI)).block)]; rfl)).mono ?_; rintro e w2 ⟨rfl, h2⟩; rw [HAN.out]))
    go_ret2
    have hRn := HUL.out
    rw [HBF.out] at hRn
    rw [HBF.out, hRn]
    exact ⟨_, rfl, HNIL.out _ ((HB.out.alloc HB.out.size _).trans (h2.mono (HB.out.alloc HB.out.size _).size))⟩
   ·rw [han] at hub
    have HBF := Lib.hid hub
    have HAN := Lib.hid han
    have HLN := Lib.hid (show h.length = c.n from hlen.trans HNE.out)
    have hRn := HUL.out
    rw [hub] at hRn
    have HRR := Lib.hid (show R = unrF c h live from hRn)
    clear hub han HUB HUL hRn hlen
    go_enter Tryz.func21, Tryz.ntmps21
    go_wp2_with (first
     | (go_at_call 40; refine (HW.out _).mono ?_; rintro e w1 ⟨rfl, h1⟩; have HB := Lib.hid (HCB.out _ w1 h1))
     | (go_at_call 41; refine (HLV.out (n : Int) _ _ (HB.out.2.alloc HB.out.2.size _) (by rw [cells_at (((Sat.old w1).alloc (.cells #[.int .i64 (n : Int)] TI)).block)]; rfl)).mono ?_; rintro e w2 ⟨rfl, h2⟩; rw [HAN.out]))
    have hb12 : Below w1.heap.size w1 w2 := ((Below.refl _ w1).alloc (Nat.le_refl _) (.cells #[.int .i64 (n : Int)] TI)).trans (h2.mono (by simp))
    have HB2 := Lib.hid (And.intro (HB.out.1.below hb12) (HB.out.2.trans (hb12.mono HB.out.2.size)))
    have HAL := Lib.hid (show ∀ u ∈ live, 0 ≤ u ∧ u < (n : Int) from fun u hu => by
     have h3 := List.any_eq_false.1 HAN.out u hu
     unfold badU at h3
     simp only [Bool.or_eq_true, decide_eq_true_eq, not_or] at h3
     omega)
    clear h1 h2 hb12 HB HAN HLV HW HCB HNIL
    generalize w1.heap.size = g1
    clear w1
    go_loopw [9, 29] (fun tv iv wr => UnrS w2 live.length (fun k => unrF c h (live.take k)) tv iv wr) (fun _ iv _ => live.length - (intOf iv).toNat)
    case atStart => exact ⟨⟨0, Nat.zero_le _, rfl, Same.refl _, ownAt_nil.2 (Sat.old w2)⟩⟩
    case round =>
     obtain ⟨k, hk, rfl, hsm, hst⟩ := hrel.st
     clear hrel
     have HS := Lib.hid (And.intro hsm hst)
     have hb := HB2.out.2.trans ((hsm.below_of hst).mono HB2.out.2.size)
     have HBX := Lib.hid (HB2.out.1.below (hsm.below_of hst))
     have HBW := Lib.hid hb
     obtain ⟨at_, ct, rfl⟩ := ownAt_slice hst
     clear hsm hst hb
     have hk1000 : (k : Int) ≤ 1000 := by omega
     by_cases hin : k < live.length
     ·have hid : decide ((k : Int) < (live.length : Int)) = true := decide_eq_true (by omega)
      have hwk : IntKind.i64.wrap ((k : Int) + 1) = (k : Int) + 1 := IntWalk.i64_in _ (by omega)
      obtain ⟨u, hu⟩ : ∃ u, live[k]? = some u := ⟨_, List.getElem?_eq_getElem hin⟩
      obtain ⟨hu0, hu1⟩ := HAL.out u (List.mem_of_getElem? hu)
      obtain ⟨x, rfl⟩ : ∃ x : Nat, u = (x : Int) := ⟨u.toNat, by omega⟩
      obtain ⟨-, b0, off, rfl, cu⟩ := rowI_at (HRL.out wr HBW.out) hu
      obtain ⟨c0, c1, c2, c3, c4⟩ := Box.code (nm := nm) (dom := dom) HBX.out
      have HC := Lib.hid (HRV.out HLN.out x (by rw [← HNE.out]; omega) wr HBW.out)
      have hsn := unrF_snoc c h hu
      rw [Int.toNat_natCast] at hsn
      have hul := unrF_len c h live k
      generalize unrF c h (live.take k) = xs at HS hsn hul
      obtain ⟨ys, hys⟩ : ∃ ys, ys = unrF c h (live.take (k + 1)) := ⟨_, rfl⟩
      rw [← hys] at hsn
      have HYS := Lib.hid hys
      rcases Bool.eq_false_or_eq_true (recR c h x) with hrr | hrr
      ·rw [hrr] at hsn HC
       have HSN := Lib.hid (show ys = xs from hsn)
       clear hsn hu hys hrr
       go_wp2_with (go_at_call 43; refine HC.out.mono ?_; rintro e w3 ⟨rfl, h3⟩)
       go_roundw
       case rel => exact ⟨⟨k + 1, hin, by push_cast; rfl, HS.out.1.below h3, by rw [← HYS.out, HSN.out]; exact HS.out.2.below h3⟩⟩
       case measure => simp only [intOf]; omega
      ·rw [hrr] at hsn HC
       have HSN := Lib.hid (show ys = xs ++ [(x : Int)] from hsn)
       clear hsn hu hys hrr
       go_upto_region 9 with (go_at_call 43; refine HC.out.mono ?_; rintro e w3 ⟨rfl, h3⟩)
       have HS3 := Lib.hid (And.intro (HS.out.1.below h3) (HS.out.2.below h3))
       clear h3 HS HBX cu c0 c1 c2 c3 c4 HC
       obtain ⟨ti, hti, hz0, hts, hz2⟩ := info_parts info_int3
       have hA6 := (HS3.out.2.alloc (.cells #[.int .i64 (x : Int)] TI)).perm (show _ = ownAt TI 1 (.slice at_ xs.length ct) xs.length (intsV xs) * (pts w3.heap.size (.cells #[.int .i64 (x : Int)] TI (0, 0)) * old w2) by ac_rfl)
       obtain ⟨v', w8, hr, hsm7, hs7⟩ := run_append_ownAt (P := Tryz.prog) 36 36 TI ti _ Tryz.underlying36 hti hz0 (by rw [hts]; rfl) (.slice at_ xs.length ct) xs.length (intsV xs) (by rw [hts]; exact hA6) ⟨w3.heap.size, 0, none⟩ 1 1 [.int .i64 (x : Int)] (by rw [hts]; rfl)
        (by intro j u hu; rw [Addr.add_mid, cells_at hA6.right.block, Nat.zero_add]; simpa using hu) (by simp [Value.oneCell']) (by unfold maxLen; omega) (by rw [hz2]; omega)
       rw [hts] at hs7
       have HN := Lib.hid (show Same w2 w8 ∧ Sat w8 (ownAt TI 1 v' ys.length (intsV ys) * old w2) from ⟨(HS3.out.1.alloc _).trans hsm7, by
        rw [HSN.out, List.length_append, List.length_singleton, show intsV (xs ++ [(x : Int)]) = intsV xs ++ [.int .i64 (x : Int)] by unfold intsV; rw [List.map_append]; rfl]
        exact (hs7.perm (show _ = pts w3.heap.size (.cells #[.int .i64 (x : Int)] TI (0, 0)) * (ownAt TI 1 v' (xs.length + 1) (intsV xs ++ [.int .i64 (x : Int)]) * old w2) by ac_rfl)).right⟩)
       have HR := Lib.hid hr
       clear hA6 hsm7 hs7 hr hti hz0 hts hz2
       go_wp2_with (at_builtin; refine wpList_run rfl (exec_appG rfl rfl rfl HR.out) ?_)
       go_roundw
       case rel => exact ⟨⟨k + 1, hin, by push_cast; rfl, by rw [← HYS.out]; exact HN.out⟩⟩
       case measure => simp only [intOf]; omega
     ·have hid : decide ((k : Int) < (live.length : Int)) = false := decide_eq_false (by omega)
      go_wp2
      go_ret2
      have hke : k = live.length := by omega
      subst hke
      have e : unrF c h (live.take live.length) = R := by rw [List.take_length, ← HRR.out]
      refine ⟨.slice at_ (unrF c h (live.take live.length)).length ct, by rw [HBF.out]; rfl, ((Same.refl w).below HB2.out.2).trans HS.out.1, ?_⟩
      have hq := HS.out.2.of_all ((Sat.old w).below HB2.out.2)
      rw [← e]
      exact hq
end Go.Proofs.YteikbikopgabjaaGreatDoor
