/- volume.Space: change, Give, Map, Unmap, Restore. -/
import Derived.Test.YtednjhlkhecihaaGreatDoorVq
namespace Go.Proofs.YtednjhlkhecihaaGreatDoor
open Go.RowKit Go.Vol Go.Sl

/-- The cells of a volume. -/
def volA (x : PartM) (q : Option Addr) : Array Value := #[.int .i64 x.id, .int .i64 x.tenant, .pointer q, .int .i64 (cnt x.m : Int)]
/-- What is asked of a change: it turns the volume at a place of its own. -/
def HowOk (g : FuncId) (lb : Array Value) (f : PartM → PartM) (w : World) : Prop := ∀ (W : World) (B : Nat) (x : PartM) (q : Option Addr), w.heap.size ≤ B → Same w W → Sat W (pts B (.cells (volA x q) TVol (0, 0)) * old w) → NodeAt TNode w 2 (.pointer q) x.m →
  Calls Tryz.prog g (#[.pointer (some ⟨B, 0, none⟩)] ++ lb) W fun e W' => e = .returned (.tuple #[]) ∧ ∃ q', Hid (Same w W' ∧ Sat W' (pts B (.cells (volA (f x) q') TVol (0, 0)) * old w) ∧ NodeAt TNode W' 2 (.pointer q') (f x).m)
theorem ElsAt.set {T : TypeId} {w : World} {l : List ElM} {i : Nat} {x : ElM} (h : ElsAt T w l) (hx : NodeAt T w 2 x.2 x.1.m) : ElsAt T w (l.set i x) := fun y hy => by
  rcases List.mem_or_eq_of_mem_set hy with hy | rfl
  · exact h y hy
  · exact hx

set_option maxRecDepth 20000 in
set_option maxHeartbeats 4000000 in
theorem change_any (p : Nat) (S : SpaceM) (v : Int) (ok : Bool) (g : FuncId) (lb : Array Value) (f : PartM → PartM) (w : World) (hS : SpaceAt TNode TSp w p S) (hwf : S.WF)
    (hcf : ∀ args w, (callFunc g args).run Tryz.prog w = .ok (.enter g args) w) (how : HowOk g lb f w) :
    Calls Tryz.prog 57 #[.pointer (some ⟨p, 0, none⟩), .int .i64 v, .bool ok, .func (.func g) #[] lb] w (Res2 w (S.change v ok f)) := by
  obtain ⟨lv, ls, hlv, hls, ⟨vv, vs, hp, hrv, hrs⟩, hev, hes⟩ := hS
  obtain ⟨ao, cap, rfl, hvx⟩ := id hrv
  obtain ⟨so, scap, rfl, hsx⟩ := id hrs
  obtain ⟨c0, c1, hpl⟩ := sp_cells hp
  have hlen : S.vols.length = lv.length := by rw [← hlv, List.length_map]
  have hn64 : lv.length ≤ 64 := by rw [← hlen]; exact hwf.vlen
  have hat := atvol_any (.slice ao lv.length cap) lv v w hrv
  rcases at_cases hlv v with ⟨hn, hi⟩ | ⟨x, hx, hsome, hi, hlt, hid, hae⟩
  · have HM := Lib.hid (show S.change v ok f = ⟨none, 0, 12⟩ by unfold SpaceM.change; rw [hn])
    rw [hi] at hat
    have HA := Lib.hid hat
    clear hlv hls hp hrv hrs hev hes hn hi hat hlen how hcf
    go_enter Tryz.func57, Tryz.ntmps57
    go_wp2_with (go_at_call 46; refine HA.out.mono ?_; rintro e w1 ⟨rfl, h2⟩)
    refine bodyPost_ret (v := .tuple #[.pointer none, .int .i64 12]) (by simp [results, Tryz.results57, go_sem]) rfl ?_
    rw [HM.out]
    exact ⟨_, rfl, h2, rfl⟩
  · rw [hi] at hat
    have HA := Lib.hid hat
    cases ok with
    | false =>
      have HM := Lib.hid (show S.change v false f = ⟨none, 0, 1⟩ by unfold SpaceM.change; rw [hsome]; rfl)
      generalize atE lv v = i at *
      have hil : (i : Int) ≤ 64 := by omega
      clear hlv hls hp hrv hrs hev hes hsome hi hat hid hae hx hvx hsx hwf hlen how hcf
      go_enter Tryz.func57, Tryz.ntmps57
      go_wp2_with (go_at_call 46; refine HA.out.mono ?_; rintro e w1 ⟨rfl, h2⟩)
      refine bodyPost_ret (v := .tuple #[.pointer none, .int .i64 1]) (by simp [results, Tryz.results57, go_sem]) rfl ?_
      rw [HM.out]
      exact ⟨_, rfl, h2, rfl⟩
    | true =>
      obtain ⟨x, r⟩ := x
      obtain ⟨g0, rfl, hgl, e0, e1, e2, e3⟩ := vol_cells hrv hx
      have hN := hev _ (List.mem_of_getElem? hx)
      obtain ⟨q, hq⟩ := NodeAt.ptr hN
      simp only at hq
      subst hq
      simp only at e0 e1 e2 e3 hN hsome
      have HM := Lib.hid (show S.change v true f = ⟨some { S with vols := S.vols.set (atE lv v) (f x) }, 0, 0⟩ by unfold SpaceM.change; rw [hsome]; simp only [if_true]; rw [hae])
      have HK := Lib.hid (And.intro e0 (And.intro e1 (And.intro e2 (And.intro e3 (And.intro c0 (And.intro hgl hpl))))))
      have HQ := Lib.hid (And.intro hlv (And.intro hls (And.intro hrv (And.intro hrs (And.intro hev (And.intro hes hN))))))
      have HP := Lib.hid (And.intro hp hpl)
      generalize atE lv v = i at *
      have hwi := fun (W : World) (hb : Below w.heap.size w W) (q' : Option Addr) => withvol_any (.slice (some ⟨g0, 0, none⟩) lv.length cap) lv.length i (lv.flatMap volE) (f x).id (f x).tenant (cnt (f x).m : Int) q' W (hrv.below hb) (flat_len volE_len lv) (ElsAt.one4 hev) (by omega) hlt
      have HW := Lib.hid hwi
      have hva := fun (W : World) (a : Option Addr) (c : Nat) (hb : Below w.heap.size w W) => volumesAre_any p (.slice (some ⟨g0, 0, none⟩) lv.length cap) (.slice so ls.length scap) a lv.length c W rfl ⟨_, _, _, rfl⟩ (by rw [hb.block p hpl]; exact hp)
      have HVA := Lib.hid hva
      have hi64 : (i : Int) ≤ 64 := by omega
      have HLT := Lib.hid hlt
      have HHOW := Lib.hid how
      clear hlv hls hp hrv hrs hev hes hsome hi hat hid hae hx hvx hsx hwi hva hlen hwf hN how hgl hpl
      go_enter Tryz.func57, Tryz.ntmps57
      go_upto_region 7 with (go_at_call 46; refine HA.out.mono ?_; rintro e w1 ⟨rfl, h2⟩; clear e0 e1 e2 e3 c0; obtain ⟨e0, e1, e2, e3, c0, hgl, hpl⟩ := HK.out; replace e0 := (h2.cell (p := ⟨g0, i * 4, none⟩) hgl).trans e0; replace e1 := (h2.cell (p := ⟨g0, i * 4 + 1, none⟩) hgl).trans e1; replace e2 := (h2.cell (p := ⟨g0, i * 4 + 2, none⟩) hgl).trans e2; replace e3 := (h2.cell (p := ⟨g0, i * 4 + 3, none⟩) hgl).trans e3; replace c0 := (h2.cell (p := ⟨p, 0, none⟩) hpl).trans c0; clear hgl hpl)
      have H1 := Lib.hid (And.intro (((Same.refl w).below h2).alloc (.cells (volA x q) TVol)) (((Sat.old w).below h2).alloc (.cells (volA x q) TVol)))
      have hB11 := h2.size
      clear e0 e1 e2 e3 c0 h2
      have hve : w1.alloc (.cells #[.int .i64 x.id, .int .i64 x.tenant, .pointer q, .int .i64 (cnt x.m : Int)] TVol) = w1.alloc (.cells (volA x q) TVol) := rfl
      rw [hve]
      clear hve
      generalize w1.alloc (.cells (volA x q) TVol) = W1 at H1 ⊢
      generalize w1.heap.size = B11 at H1 hB11 ⊢
      have hhow := HHOW.out W1 B11 x q hB11 H1.out.1 H1.out.2 HQ.out.2.2.2.2.2.2
      have HC := Lib.hid hhow
      clear hhow hB11 H1
      go_upto_region 8 with (refine HC.out.mono ?_; clear HC; rintro e W2 ⟨rfl, q', h2⟩)
      have H1 := h2
      clear h2 hcf
      have hbw1 := H1.out.1.below_of H1.out.2.1
      have hS0 : W2.drew.cell? ⟨p, 0, none⟩ = some (.slice (some ⟨g0, 0, none⟩) lv.length cap) ∧ W2.drew.cell? ⟨B11, 0, none⟩ = some (.int .i64 (f x).id) ∧ W2.drew.cell? ⟨B11, 1, none⟩ = some (.int .i64 (f x).tenant) ∧ W2.drew.cell? ⟨B11, 2, none⟩ = some (.pointer q') ∧ W2.drew.cell? ⟨B11, 3, none⟩ = some (.int .i64 (cnt (f x).m : Int)) := ⟨(hbw1.cell (p := ⟨p, 0, none⟩) HP.out.2).trans HK.out.2.2.2.2.1, cells_at H1.out.2.1.block 0, cells_at H1.out.2.1.block 1, cells_at H1.out.2.1.block 2, cells_at H1.out.2.1.block 3⟩
      have hbd : Below w.heap.size w W2.drew := hbw1.drew
      have HBW1 := Lib.hid hbw1
      clear hbw1
      refine reg_begin (fun w' => w'.cell? ⟨p, 0, none⟩ = some (.slice (some ⟨g0, 0, none⟩) lv.length cap) ∧ w'.cell? ⟨B11, 0, none⟩ = some (.int .i64 (f x).id) ∧ w'.cell? ⟨B11, 1, none⟩ = some (.int .i64 (f x).tenant) ∧ w'.cell? ⟨B11, 2, none⟩ = some (.pointer q') ∧ w'.cell? ⟨B11, 3, none⟩ = some (.int .i64 (cnt (f x).m : Int))) (by kernel_rfl) ?_
      (apply reg_take 0 rfl rfl (by decide +kernel) rfl); (rintro w' ⟨h1, h2, h3, h4, h5⟩; go_simp; rfl); exact hS0; simp only [List.setIfInBounds_toArray, List.set_cons_succ, List.set_cons_zero]
      (apply reg_take 1 rfl rfl (by decide +kernel) rfl); (rintro w' ⟨h1, h2, h3, h4, h5⟩; go_simp; rfl); exact hS0; simp only [List.setIfInBounds_toArray, List.set_cons_succ, List.set_cons_zero]
      (apply reg_take 2 rfl rfl (by decide +kernel) rfl); (rintro w' ⟨h1, h2, h3, h4, h5⟩; go_simp; rfl); exact hS0; simp only [List.setIfInBounds_toArray, List.set_cons_succ, List.set_cons_zero]
      (apply reg_take 3 rfl rfl (by decide +kernel) rfl); (rintro w' ⟨h1, h2, h3, h4, h5⟩; go_simp; rfl); exact hS0; simp only [List.setIfInBounds_toArray, List.set_cons_succ, List.set_cons_zero]
      (apply reg_take 4 rfl rfl (by decide +kernel) rfl); (rintro w' ⟨h1, h2, h3, h4, h5⟩; go_simp; rfl); exact hS0; simp only [List.setIfInBounds_toArray, List.set_cons_succ, List.set_cons_zero]
      (apply reg_take 5 rfl rfl (by decide +kernel) rfl); (rintro w' ⟨h1, h2, h3, h4, h5⟩; go_simp; rfl); exact hS0; simp only [List.setIfInBounds_toArray, List.set_cons_succ, List.set_cons_zero]
      (apply reg_take 6 rfl rfl (by decide +kernel) rfl); (rintro w' ⟨h1, h2, h3, h4, h5⟩; go_simp; rfl); exact hS0; simp only [List.setIfInBounds_toArray, List.set_cons_succ, List.set_cons_zero]
      refine reg_call 7 rfl rfl (by decide +kernel) rfl (f := 90) (args := #[.slice (some ⟨g0, 0, none⟩) lv.length cap, .int .i64 (i : Int), .agg #[.int .i64 (f x).id, .int .i64 (f x).tenant, .pointer q', .int .i64 (cnt (f x).m : Int)]]) (R := fun v1 w' => ∃ a c, v1 = .slice a lv.length c ∧ Hid (Below W2.heap.size W2 w' ∧ RowsAt w' (.slice a lv.length c) lv.length ((lv.flatMap volE).take (i * 4) ++ ([.int .i64 (f x).id, .int .i64 (f x).tenant, .pointer q', .int .i64 (cnt (f x).m : Int)] : List Value) ++ (lv.flatMap volE).drop ((i + 1) * 4)))) (by kernel_rfl)
        ((HW.out W2.drew hbd q').mono fun e w' h => by
          obtain ⟨v3, rfl, h1, h2⟩ := h
          obtain ⟨a, c, rfl, _⟩ := id h2
          exact ⟨_, rfl, a, c, rfl, ((Below.refl _ W2).drew).trans h1, h2⟩) ?_
      rintro _ W3 ⟨a3, k3, rfl, h3⟩
      have hbw3 := HBW1.out.trans (h3.out.1.mono HBW1.out.size)
      have hs3 := H1.out.2.1.below h3.out.1
      have hS3 : W3.cell? ⟨p, 0, none⟩ = some (.slice (some ⟨g0, 0, none⟩) lv.length cap) ∧ W3.cell? ⟨B11, 0, none⟩ = some (.int .i64 (f x).id) ∧ W3.cell? ⟨B11, 1, none⟩ = some (.int .i64 (f x).tenant) ∧ W3.cell? ⟨B11, 2, none⟩ = some (.pointer q') ∧ W3.cell? ⟨B11, 3, none⟩ = some (.int .i64 (cnt (f x).m : Int)) := ⟨(hbw3.cell (p := ⟨p, 0, none⟩) HP.out.2).trans HK.out.2.2.2.2.1, cells_at hs3.block 0, cells_at hs3.block 1, cells_at hs3.block 2, cells_at hs3.block 3⟩
      refine ⟨hS3, ?_⟩
      simp only [List.setIfInBounds_toArray, List.set_cons_succ, List.set_cons_zero]
      refine reg_call 8 rfl rfl (by decide +kernel) rfl (f := 55) (args := #[.pointer (some ⟨p, 0, none⟩), .slice a3 lv.length k3]) (R := fun v1 w' => v1 = .pointer (some ⟨W3.heap.size, 0, none⟩) ∧ w' = W3.alloc (.cells #[.slice a3 lv.length k3, .slice so ls.length scap] TSp)) (by kernel_rfl) ((HVA.out W3 a3 k3 hbw3).mono fun e w' h => ⟨_, h.1, rfl, h.2⟩) ?_
      rintro _ _ ⟨rfl, rfl⟩
      have hbw5 := hbw3.alloc hbw3.size (.cells #[.slice a3 lv.length k3, .slice so ls.length scap] TSp)
      have hb35 := (Below.refl W3.heap.size W3).alloc (Nat.le_refl _) (.cells #[.slice a3 lv.length k3, .slice so ls.length scap] TSp)
      have hs5 := hs3.allocKeep (.cells #[.slice a3 lv.length k3, .slice so ls.length scap] TSp)
      have hS5 : (W3.alloc (.cells #[.slice a3 lv.length k3, .slice so ls.length scap] TSp)).cell? ⟨p, 0, none⟩ = some (.slice (some ⟨g0, 0, none⟩) lv.length cap) ∧ (W3.alloc (.cells #[.slice a3 lv.length k3, .slice so ls.length scap] TSp)).cell? ⟨B11, 0, none⟩ = some (.int .i64 (f x).id) ∧ (W3.alloc (.cells #[.slice a3 lv.length k3, .slice so ls.length scap] TSp)).cell? ⟨B11, 1, none⟩ = some (.int .i64 (f x).tenant) ∧ (W3.alloc (.cells #[.slice a3 lv.length k3, .slice so ls.length scap] TSp)).cell? ⟨B11, 2, none⟩ = some (.pointer q') ∧ (W3.alloc (.cells #[.slice a3 lv.length k3, .slice so ls.length scap] TSp)).cell? ⟨B11, 3, none⟩ = some (.int .i64 (cnt (f x).m : Int)) := ⟨(hbw5.cell (p := ⟨p, 0, none⟩) HP.out.2).trans HK.out.2.2.2.2.1, cells_at hs5.block 0, cells_at hs5.block 1, cells_at hs5.block 2, cells_at hs5.block 3⟩
      have hfin : SpaceAt TNode TSp (W3.alloc (.cells #[.slice a3 lv.length k3, .slice so ls.length scap] TSp)) W3.heap.size { S with vols := S.vols.set i (f x) } := by
        refine ⟨lv.set i (f x, .pointer q'), ls, by rw [List.map_set, HQ.out.1], HQ.out.2.1, SpAt.mk' (heap_alloc_new _ _) ?_ (HQ.out.2.2.2.1.below hbw5) (ElsAt.set (HQ.out.2.2.2.2.1.below hbw5) ((H1.out.2.2.below h3.out.1).below hb35)) (HQ.out.2.2.2.2.2.1.below hbw5)⟩
        rw [List.length_set, flat_set volE_len _ _ _ HLT.out]
        exact h3.out.2.below hb35
      have HFIN := Lib.hid (And.intro hbw5 hfin)
      generalize W3.alloc (.cells #[.slice a3 lv.length k3, .slice so ls.length scap] TSp) = W5 at hS5 HFIN ⊢
      generalize W3.heap.size = B7 at HFIN ⊢
      refine ⟨hS5, ?_⟩
      simp only [List.setIfInBounds_toArray, List.set_cons_succ, List.set_cons_zero]
      (apply reg_take 9 rfl rfl (by decide +kernel) rfl); (rintro w' ⟨h1, h2, h3, h4, h5⟩; go_simp; rfl); exact hS5; simp only [List.setIfInBounds_toArray, List.set_cons_succ, List.set_cons_zero]
      (apply reg_take 10 rfl rfl (by decide +kernel) rfl); (rintro w' ⟨h1, h2, h3, h4, h5⟩; go_simp; rfl); exact hS5; simp only [List.setIfInBounds_toArray, List.set_cons_succ, List.set_cons_zero]
      refine reg_done (by decide +kernel) ?_
      clear hS3 hS5 hbw3 h3 hfin hbw5 hb35 hs3 hs5 hS0 hbd
      go_wp2
      refine bodyPost_ret (v := .tuple #[.pointer (some ⟨B7, 0, none⟩), .int .i64 0]) (by simp [results, Tryz.results57, go_sem]) rfl ?_
      rw [HM.out]
      exact ⟨_, rfl, HFIN.out.1, B7, rfl, HFIN.out.2⟩

set_option maxHeartbeats 1000000 in
theorem give1_any (t : Int) (C : Nat) (w : World) (hc : w.cell? ⟨C, 0, none⟩ = some (.int .i64 t)) (hC : C < w.heap.size) : HowOk 59 #[.pointer (some ⟨C, 0, none⟩)] (fun p => { p with tenant := t }) w := by
  intro W B x q hB hsm hs hn
  have hbw := hsm.below_of hs
  have hb := cells_at hs.block
  unfold volA at hb
  have e1 := hb 1
  have f1 := thawed_at hs.block 1
  have ec := (hbw.cell (p := ⟨C, 0, none⟩) hC).trans hc
  have h9 := hs.setCell (i := 1) (.int .i64 t)
  have HO := Lib.hid (And.intro (hsm.setCell ⟨B, 1, none⟩ (.int .i64 t)) (And.intro h9 hn))
  clear hb hs hn h9 hsm hbw
  show Calls Tryz.prog 59 #[.pointer (some ⟨B, 0, none⟩), .pointer (some ⟨C, 0, none⟩)] W _
  go_enter Tryz.func59, Tryz.ntmps59
  go_wp2
  go_end0
  exact ⟨rfl, q, HO.out.1, HO.out.2.1, NodeAt.below (HO.out.1.below_of HO.out.2.1) HO.out.2.2⟩

set_option maxHeartbeats 1000000 in
theorem giveS_any (p : Nat) (S : SpaceM) (v t : Int) (w : World) (hS : SpaceAt TNode TSp w p S) (hwf : S.WF) :
    Calls Tryz.prog 21 #[.pointer (some ⟨p, 0, none⟩), .int .i64 v, .int .i64 t] w (Res2 w (S.give v t)) := by
  have hb0 := (Below.refl w.heap.size w).alloc (Nat.le_refl _) (.cells #[.int .i64 t] 3)
  have HT := Lib.hid (tenantOK_any t (w.alloc (.cells #[.int .i64 t] 3)))
  have HC := Lib.hid (change_any p S v (tenB t) 59 #[.pointer (some ⟨w.heap.size, 0, none⟩)] (fun p => { p with tenant := t }) (w.alloc (.cells #[.int .i64 t] 3)) (hS.below hb0) hwf (enters_of Tryz.func59 (by kernel_rfl) rfl) (give1_any t w.heap.size _ (cells_at (heap_alloc_new _ _) 0) (by simp)))
  have HB := Lib.hid hb0
  clear hb0 hS hwf
  go_enter Tryz.func21, Tryz.ntmps21
  go_wp2_with (first
    | (go_at_call 58; refine HT.out.mono ?_; rintro e w' ⟨rfl, rfl⟩)
    | (go_at_call 57; refine HC.out.mono ?_; rintro e w2 ⟨vr, rfl, h3, h4⟩; have H4 := Lib.hid (And.intro h3 h4); clear h3 h4))
  refine bodyPost_ret (v := .tuple #[vr, .int .i64 (S.change v (tenB t) fun p => { p with tenant := t }).e]) (by simp [results, Tryz.results21, go_sem]) rfl ?_
  exact ⟨vr, rfl, HB.out.trans (H4.out.1.mono HB.out.size), H4.out.2⟩

set_option maxRecDepth 20000 in
set_option maxHeartbeats 2000000 in
theorem map1_any (b : Nat) (c : Int) (hb : b < 4096) (C D : Nat) (w : World) (hc : w.cell? ⟨C, 0, none⟩ = some (.int .i64 (b : Int))) (hC : C < w.heap.size) (hd : w.cell? ⟨D, 0, none⟩ = some (.int .i64 c)) (hD : D < w.heap.size) : HowOk 61 #[.pointer (some ⟨C, 0, none⟩), .pointer (some ⟨D, 0, none⟩)] (fun p => { p with m := upd p.m b (some c) }) w := by
  intro W B x q hB hsm hs hn
  have hbw := hsm.below_of hs
  have HCD := Lib.hid (And.intro hC (And.intro hc (And.intro hD hd)))
  have HS := Lib.hid (And.intro hsm hs)
  have hS0 : W.drew.cell? ⟨B, 2, none⟩ = some (.pointer q) ∧ W.drew.cell? ⟨B, 3, none⟩ = some (.int .i64 (cnt x.m : Int)) ∧ W.drew.cell? ⟨C, 0, none⟩ = some (.int .i64 (b : Int)) ∧ W.drew.cell? ⟨D, 0, none⟩ = some (.int .i64 c) := ⟨cells_at hs.block 2, cells_at hs.block 3, (hbw.cell (p := ⟨C, 0, none⟩) HCD.out.1).trans HCD.out.2.1, (hbw.cell (p := ⟨D, 0, none⟩) HCD.out.2.2.1).trans HCD.out.2.2.2⟩
  have hnW : NodeOk TNode (fun k => k ≠ B) W.drew 2 (.pointer q) x.m := (NodeOk.weaken (ok' := fun k => k ≠ B) (fun k _ hk => by omega) hn).below hbw
  have hcall := (tset_any (fun k => k ≠ B) (.pointer q) x.m b c hb W.drew hnW (fun k hk => by have := hs.lt; have : W.heap.size ≤ k := hk; omega))
  have HC := Lib.hid hcall
  clear hbw hsm hs hn hnW hcall
  simp only [List.append_toArray, List.cons_append, List.nil_append]
  go_enter Tryz.func61, Tryz.ntmps61
  go_upto_region 0 with (fail)
  refine reg_begin (fun w' => w'.cell? ⟨B, 2, none⟩ = some (.pointer q) ∧ w'.cell? ⟨B, 3, none⟩ = some (.int .i64 (cnt x.m : Int)) ∧ w'.cell? ⟨C, 0, none⟩ = some (.int .i64 (b : Int)) ∧ w'.cell? ⟨D, 0, none⟩ = some (.int .i64 c)) (by kernel_rfl) ?_
  (apply reg_take 0 rfl rfl (by decide +kernel) rfl); (rintro w' ⟨h1, h2, h3, h4⟩; go_simp; rfl); exact hS0; simp only [List.setIfInBounds_toArray, List.set_cons_succ, List.set_cons_zero]
  (apply reg_take 1 rfl rfl (by decide +kernel) rfl); (rintro w' ⟨h1, h2, h3, h4⟩; go_simp; rfl); exact hS0; simp only [List.setIfInBounds_toArray, List.set_cons_succ, List.set_cons_zero]
  (apply reg_take 2 rfl rfl (by decide +kernel) rfl); (rintro w' ⟨h1, h2, h3, h4⟩; go_simp; rfl); exact hS0; simp only [List.setIfInBounds_toArray, List.set_cons_succ, List.set_cons_zero]
  (apply reg_take 3 rfl rfl (by decide +kernel) rfl); (rintro w' ⟨h1, h2, h3, h4⟩; go_simp; rfl); exact hS0; simp only [List.setIfInBounds_toArray, List.set_cons_succ, List.set_cons_zero]
  (apply reg_take 4 rfl rfl (by decide +kernel) rfl); (rintro w' ⟨h1, h2, h3, h4⟩; go_simp; rfl); exact hS0; simp only [List.setIfInBounds_toArray, List.set_cons_succ, List.set_cons_zero]
  (apply reg_take 5 rfl rfl (by decide +kernel) rfl); (rintro w' ⟨h1, h2, h3, h4⟩; go_simp; rfl); exact hS0; simp only [List.setIfInBounds_toArray, List.set_cons_succ, List.set_cons_zero]
  (apply reg_take 6 rfl rfl (by decide +kernel) rfl); (rintro w' ⟨h1, h2, h3, h4⟩; go_simp; rfl); exact hS0; simp only [List.setIfInBounds_toArray, List.set_cons_succ, List.set_cons_zero]
  (apply reg_take 7 rfl rfl (by decide +kernel) rfl); (rintro w' ⟨h1, h2, h3, h4⟩; go_simp; rfl); exact hS0; simp only [List.setIfInBounds_toArray, List.set_cons_succ, List.set_cons_zero]
  refine reg_call 8 rfl rfl (by decide +kernel) rfl (f := 62) (args := #[.agg #[.pointer q, .int .i64 (cnt x.m : Int)], .int .i64 (b : Int), .int .i64 c]) (R := fun v1 w' => ∃ q' : Option Addr, v1 = .agg #[.pointer q', .int .i64 (cnt (upd x.m b (some c)) : Int)] ∧ Hid (Below W.heap.size W w' ∧ NodeOk TNode (fun k => k ≠ B) w' 2 (.pointer q') (upd x.m b (some c)))) (by kernel_rfl)
    (HC.out.mono fun e w' h => by
      obtain ⟨q', rfl, h1, h2⟩ := h
      exact ⟨_, rfl, q', rfl, ((Below.refl _ W).drew).trans h1, h2⟩) ?_
  rintro _ W3 ⟨q', rfl, h3⟩
  have hs3 := HS.out.2.below h3.out.1
  have hm3 := HS.out.1.below h3.out.1
  have hbw3 := hm3.below_of hs3
  have hS3 : W3.cell? ⟨B, 2, none⟩ = some (.pointer q) ∧ W3.cell? ⟨B, 3, none⟩ = some (.int .i64 (cnt x.m : Int)) ∧ W3.cell? ⟨C, 0, none⟩ = some (.int .i64 (b : Int)) ∧ W3.cell? ⟨D, 0, none⟩ = some (.int .i64 c) := ⟨cells_at hs3.block 2, cells_at hs3.block 3, (hbw3.cell (p := ⟨C, 0, none⟩) HCD.out.1).trans HCD.out.2.1, (hbw3.cell (p := ⟨D, 0, none⟩) HCD.out.2.2.1).trans HCD.out.2.2.2⟩
  refine ⟨hS3, ?_⟩
  simp only [List.setIfInBounds_toArray, List.set_cons_succ, List.set_cons_zero]
  (apply reg_take 9 rfl rfl (by decide +kernel) rfl); (rintro w' ⟨h1, h2, h3, h4⟩; go_simp; rfl); exact hS3; simp only [List.setIfInBounds_toArray, List.set_cons_succ, List.set_cons_zero]
  (apply reg_take 10 rfl rfl (by decide +kernel) rfl); (rintro w' ⟨h1, h2, h3, h4⟩; go_simp; rfl); exact hS3; simp only [List.setIfInBounds_toArray, List.set_cons_succ, List.set_cons_zero]
  (apply reg_take 11 rfl rfl (by decide +kernel) rfl); (rintro w' ⟨h1, h2, h3, h4⟩; go_simp; rfl); exact hS3; simp only [List.setIfInBounds_toArray, List.set_cons_succ, List.set_cons_zero]
  have e2 : W3.cell? ⟨B, 2, none⟩ = some (.pointer q) := hS3.1
  have e3 : W3.cell? ⟨B, 3, none⟩ = some (.int .i64 (cnt x.m : Int)) := hS3.2.1
  have f2 := thawed_at hs3.block 2
  have f3 := thawed_at hs3.block 3
  refine reg_do_last 12 ((W3.setCell ⟨B, 2, none⟩ (.pointer q')).setCell ⟨B, 3, none⟩ (.int .i64 (cnt (upd x.m b (some c)) : Int))) rfl rfl (by decide +kernel) rfl (by go_simp) ?_
  have h9 := (hs3.setCell (i := 2) (.pointer q')).setCell (i := 3) (.int .i64 (cnt (upd x.m b (some c)) : Int))
  have h8 := (hm3.setCell ⟨B, 2, none⟩ (.pointer q')).setCell ⟨B, 3, none⟩ (.int .i64 (cnt (upd x.m b (some c)) : Int))
  have hnode : NodeAt TNode ((W3.setCell ⟨B, 2, none⟩ (.pointer q')).setCell ⟨B, 3, none⟩ (.int .i64 (cnt (upd x.m b (some c)) : Int))) 2 (.pointer q') (upd x.m b (some c)) := NodeOk.at (NodeOk.keep (fun k hk _ => by rw [heap_setCell_other _ ⟨B, 3, none⟩ _ _ hk, heap_setCell_other _ ⟨B, 2, none⟩ _ _ hk]) h3.out.2)
  have HO := Lib.hid (And.intro h8 (And.intro h9 hnode))
  clear h8 h9 hnode hS0 hS3 e2 e3 f2 f3 hs3 hm3 hbw3 h3
  go_wp2
  go_end0
  exact ⟨rfl, q', HO.out⟩

set_option maxRecDepth 20000 in
set_option maxHeartbeats 2000000 in
theorem unmap1_any (b : Nat) (hb : b < 4096) (C : Nat) (w : World) (hc : w.cell? ⟨C, 0, none⟩ = some (.int .i64 (b : Int))) (hC : C < w.heap.size) : HowOk 63 #[.pointer (some ⟨C, 0, none⟩)] (fun p => { p with m := upd p.m b none }) w := by
  intro W B x q hB hsm hs hn
  have hbw := hsm.below_of hs
  have HCD := Lib.hid (And.intro hC (And.intro hc trivial))
  have HS := Lib.hid (And.intro hsm hs)
  have hS0 : W.drew.cell? ⟨B, 2, none⟩ = some (.pointer q) ∧ W.drew.cell? ⟨B, 3, none⟩ = some (.int .i64 (cnt x.m : Int)) ∧ W.drew.cell? ⟨C, 0, none⟩ = some (.int .i64 (b : Int)) := ⟨cells_at hs.block 2, cells_at hs.block 3, (hbw.cell (p := ⟨C, 0, none⟩) HCD.out.1).trans HCD.out.2.1⟩
  have hnW : NodeOk TNode (fun k => k ≠ B) W.drew 2 (.pointer q) x.m := (NodeOk.weaken (ok' := fun k => k ≠ B) (fun k _ hk => by omega) hn).below hbw
  have hcall := (tclear_any (fun k => k ≠ B) (.pointer q) x.m b hb W.drew hnW (fun k hk => by have := hs.lt; have : W.heap.size ≤ k := hk; omega))
  have HC := Lib.hid hcall
  clear hbw hsm hs hn hnW hcall
  simp only [List.append_toArray, List.cons_append, List.nil_append]
  go_enter Tryz.func63, Tryz.ntmps63
  go_upto_region 0 with (fail)
  refine reg_begin (fun w' => w'.cell? ⟨B, 2, none⟩ = some (.pointer q) ∧ w'.cell? ⟨B, 3, none⟩ = some (.int .i64 (cnt x.m : Int)) ∧ w'.cell? ⟨C, 0, none⟩ = some (.int .i64 (b : Int))) (by kernel_rfl) ?_
  (apply reg_take 0 rfl rfl (by decide +kernel) rfl); (rintro w' ⟨h1, h2, h3⟩; go_simp; rfl); exact hS0; simp only [List.setIfInBounds_toArray, List.set_cons_succ, List.set_cons_zero]
  (apply reg_take 1 rfl rfl (by decide +kernel) rfl); (rintro w' ⟨h1, h2, h3⟩; go_simp; rfl); exact hS0; simp only [List.setIfInBounds_toArray, List.set_cons_succ, List.set_cons_zero]
  (apply reg_take 2 rfl rfl (by decide +kernel) rfl); (rintro w' ⟨h1, h2, h3⟩; go_simp; rfl); exact hS0; simp only [List.setIfInBounds_toArray, List.set_cons_succ, List.set_cons_zero]
  (apply reg_take 3 rfl rfl (by decide +kernel) rfl); (rintro w' ⟨h1, h2, h3⟩; go_simp; rfl); exact hS0; simp only [List.setIfInBounds_toArray, List.set_cons_succ, List.set_cons_zero]
  (apply reg_take 4 rfl rfl (by decide +kernel) rfl); (rintro w' ⟨h1, h2, h3⟩; go_simp; rfl); exact hS0; simp only [List.setIfInBounds_toArray, List.set_cons_succ, List.set_cons_zero]
  (apply reg_take 5 rfl rfl (by decide +kernel) rfl); (rintro w' ⟨h1, h2, h3⟩; go_simp; rfl); exact hS0; simp only [List.setIfInBounds_toArray, List.set_cons_succ, List.set_cons_zero]
  (apply reg_take 6 rfl rfl (by decide +kernel) rfl); (rintro w' ⟨h1, h2, h3⟩; go_simp; rfl); exact hS0; simp only [List.setIfInBounds_toArray, List.set_cons_succ, List.set_cons_zero]
  refine reg_call 7 rfl rfl (by decide +kernel) rfl (f := 64) (args := #[.agg #[.pointer q, .int .i64 (cnt x.m : Int)], .int .i64 (b : Int)]) (R := fun v1 w' => ∃ q' : Option Addr, v1 = .agg #[.pointer q', .int .i64 (cnt (upd x.m b none) : Int)] ∧ Hid (Below W.heap.size W w' ∧ NodeOk TNode (fun k => k ≠ B) w' 2 (.pointer q') (upd x.m b none))) (by kernel_rfl)
    (HC.out.mono fun e w' h => by
      obtain ⟨q', rfl, h1, h2⟩ := h
      exact ⟨_, rfl, q', rfl, ((Below.refl _ W).drew).trans h1, h2⟩) ?_
  rintro _ W3 ⟨q', rfl, h3⟩
  have hs3 := HS.out.2.below h3.out.1
  have hm3 := HS.out.1.below h3.out.1
  have hbw3 := hm3.below_of hs3
  have hS3 : W3.cell? ⟨B, 2, none⟩ = some (.pointer q) ∧ W3.cell? ⟨B, 3, none⟩ = some (.int .i64 (cnt x.m : Int)) ∧ W3.cell? ⟨C, 0, none⟩ = some (.int .i64 (b : Int)) := ⟨cells_at hs3.block 2, cells_at hs3.block 3, (hbw3.cell (p := ⟨C, 0, none⟩) HCD.out.1).trans HCD.out.2.1⟩
  refine ⟨hS3, ?_⟩
  simp only [List.setIfInBounds_toArray, List.set_cons_succ, List.set_cons_zero]
  (apply reg_take 8 rfl rfl (by decide +kernel) rfl); (rintro w' ⟨h1, h2, h3⟩; go_simp; rfl); exact hS3; simp only [List.setIfInBounds_toArray, List.set_cons_succ, List.set_cons_zero]
  (apply reg_take 9 rfl rfl (by decide +kernel) rfl); (rintro w' ⟨h1, h2, h3⟩; go_simp; rfl); exact hS3; simp only [List.setIfInBounds_toArray, List.set_cons_succ, List.set_cons_zero]
  (apply reg_take 10 rfl rfl (by decide +kernel) rfl); (rintro w' ⟨h1, h2, h3⟩; go_simp; rfl); exact hS3; simp only [List.setIfInBounds_toArray, List.set_cons_succ, List.set_cons_zero]
  have e2 : W3.cell? ⟨B, 2, none⟩ = some (.pointer q) := hS3.1
  have e3 : W3.cell? ⟨B, 3, none⟩ = some (.int .i64 (cnt x.m : Int)) := hS3.2.1
  have f2 := thawed_at hs3.block 2
  have f3 := thawed_at hs3.block 3
  refine reg_do_last 11 ((W3.setCell ⟨B, 2, none⟩ (.pointer q')).setCell ⟨B, 3, none⟩ (.int .i64 (cnt (upd x.m b none) : Int))) rfl rfl (by decide +kernel) rfl (by go_simp) ?_
  have h9 := (hs3.setCell (i := 2) (.pointer q')).setCell (i := 3) (.int .i64 (cnt (upd x.m b none) : Int))
  have h8 := (hm3.setCell ⟨B, 2, none⟩ (.pointer q')).setCell ⟨B, 3, none⟩ (.int .i64 (cnt (upd x.m b none) : Int))
  have hnode : NodeAt TNode ((W3.setCell ⟨B, 2, none⟩ (.pointer q')).setCell ⟨B, 3, none⟩ (.int .i64 (cnt (upd x.m b none) : Int))) 2 (.pointer q') (upd x.m b none) := NodeOk.at (NodeOk.keep (fun k hk _ => by rw [heap_setCell_other _ ⟨B, 3, none⟩ _ _ hk, heap_setCell_other _ ⟨B, 2, none⟩ _ _ hk]) h3.out.2)
  have HO := Lib.hid (And.intro h8 (And.intro h9 hnode))
  clear h8 h9 hnode hS0 hS3 e2 e3 f2 f3 hs3 hm3 hbw3 h3
  go_wp2
  go_end0
  exact ⟨rfl, q', HO.out⟩

theorem map1_bad (g : FuncId) (lb : Array Value) (f : PartM → PartM) (w : World) (p : Nat) (S : SpaceM) (v : Int) (hS : SpaceAt TNode TSp w p S) (hwf : S.WF) :
    Calls Tryz.prog 57 #[.pointer (some ⟨p, 0, none⟩), .int .i64 v, .bool false, .func (.func g) #[] lb] w (Res2 w (S.change v false f)) := by
  obtain ⟨lv, ls, hlv, hls, ⟨vv, vs, hp, hrv, hrs⟩, hev, hes⟩ := hS
  obtain ⟨ao, cap, rfl, hvx⟩ := id hrv
  obtain ⟨so, scap, rfl, hsx⟩ := id hrs
  obtain ⟨c0, c1, hpl⟩ := sp_cells hp
  have hlen : S.vols.length = lv.length := by rw [← hlv, List.length_map]
  have hn64 : lv.length ≤ 64 := by rw [← hlen]; exact hwf.vlen
  have hat := atvol_any (.slice ao lv.length cap) lv v w hrv
  rcases at_cases hlv v with ⟨hn, hi⟩ | ⟨x, hx, hsome, hi, hlt, hid, hae⟩
  · have HM := Lib.hid (show S.change v false f = ⟨none, 0, 12⟩ by unfold SpaceM.change; rw [hn])
    rw [hi] at hat
    have HA := Lib.hid hat
    clear hlv hls hp hrv hrs hev hes hn hi hat hlen
    go_enter Tryz.func57, Tryz.ntmps57
    go_wp2_with (go_at_call 46; refine HA.out.mono ?_; rintro e w1 ⟨rfl, h2⟩)
    refine bodyPost_ret (v := .tuple #[.pointer none, .int .i64 12]) (by simp [results, Tryz.results57, go_sem]) rfl ?_
    rw [HM.out]
    exact ⟨_, rfl, h2, rfl⟩
  · rw [hi] at hat
    have HA := Lib.hid hat
    have HM := Lib.hid (show S.change v false f = ⟨none, 0, 1⟩ by unfold SpaceM.change; rw [hsome]; rfl)
    generalize atE lv v = i at *
    have hil : (i : Int) ≤ 64 := by omega
    clear hlv hls hp hrv hrs hev hes hsome hi hat hid hae hx hvx hsx hwf hlen
    go_enter Tryz.func57, Tryz.ntmps57
    go_wp2_with (go_at_call 46; refine HA.out.mono ?_; rintro e w1 ⟨rfl, h2⟩)
    refine bodyPost_ret (v := .tuple #[.pointer none, .int .i64 1]) (by simp [results, Tryz.results57, go_sem]) rfl ?_
    rw [HM.out]
    exact ⟨_, rfl, h2, rfl⟩

/-- Map's call of change, whatever its arguments. -/
theorem mapch_any (p : Nat) (S : SpaceM) (v b c : Int) (C D : Nat) (w : World) (hS : SpaceAt TNode TSp w p S) (hwf : S.WF) (hc : w.cell? ⟨C, 0, none⟩ = some (.int .i64 b)) (hC : C < w.heap.size) (hd : w.cell? ⟨D, 0, none⟩ = some (.int .i64 c)) (hD : D < w.heap.size) :
    Calls Tryz.prog 57 #[.pointer (some ⟨p, 0, none⟩), .int .i64 v, .bool (blkB b && chkB c), .func (.func 61) #[] #[.pointer (some ⟨C, 0, none⟩), .pointer (some ⟨D, 0, none⟩)]] w (Res2 w (S.map v b c)) := by
  have hcf := enters_of Tryz.func61 (by kernel_rfl) rfl
  unfold SpaceM.map
  cases hb : blkB b with
  | false => exact map1_bad _ _ _ w p S v hS hwf
  | true =>
    obtain ⟨h1, h2⟩ := SpaceM.blkB_iff.1 hb
    obtain ⟨k, rfl⟩ := Int.eq_ofNat_of_zero_le h1
    exact change_any p S v _ _ _ _ w hS hwf hcf (map1_any k c (by omega) C D w hc hC hd hD)
theorem unmapch_any (p : Nat) (S : SpaceM) (v b : Int) (C : Nat) (w : World) (hS : SpaceAt TNode TSp w p S) (hwf : S.WF) (hc : w.cell? ⟨C, 0, none⟩ = some (.int .i64 b)) (hC : C < w.heap.size) :
    Calls Tryz.prog 57 #[.pointer (some ⟨p, 0, none⟩), .int .i64 v, .bool (blkB b), .func (.func 63) #[] #[.pointer (some ⟨C, 0, none⟩)]] w (Res2 w (S.unmap v b)) := by
  have hcf := enters_of Tryz.func63 (by kernel_rfl) rfl
  unfold SpaceM.unmap
  cases hb : blkB b with
  | false => exact map1_bad _ _ _ w p S v hS hwf
  | true =>
    obtain ⟨h1, h2⟩ := SpaceM.blkB_iff.1 hb
    obtain ⟨k, rfl⟩ := Int.eq_ofNat_of_zero_le h1
    exact change_any p S v _ _ _ _ w hS hwf hcf (unmap1_any k (by omega) C w hc hC)

set_option maxHeartbeats 1000000 in
theorem unmapS_any (p : Nat) (S : SpaceM) (v b : Int) (w : World) (hS : SpaceAt TNode TSp w p S) (hwf : S.WF) :
    Calls Tryz.prog 23 #[.pointer (some ⟨p, 0, none⟩), .int .i64 v, .int .i64 b] w (Res2 w (S.unmap v b)) := by
  have hb0 := (Below.refl w.heap.size w).alloc (Nat.le_refl _) (.cells #[.int .i64 b] 3)
  have HT := Lib.hid (blockOK_any b (w.alloc (.cells #[.int .i64 b] 3)))
  have HC := Lib.hid (unmapch_any p S v b w.heap.size (w.alloc (.cells #[.int .i64 b] 3)) (hS.below hb0) hwf (cells_at (heap_alloc_new _ _) 0) (by simp))
  have HB := Lib.hid hb0
  clear hb0 hS hwf
  go_enter Tryz.func23, Tryz.ntmps23
  go_wp2_with (first
    | (go_at_call 60; refine HT.out.mono ?_; rintro e w' ⟨rfl, rfl⟩)
    | (go_at_call 57; refine HC.out.mono ?_; rintro e w2 ⟨vr, rfl, h3, h4⟩; have H4 := Lib.hid (And.intro h3 h4); clear h3 h4))
  refine bodyPost_ret (v := .tuple #[vr, .int .i64 (S.unmap v b).e]) (by simp [results, Tryz.results23, go_sem]) rfl ?_
  exact ⟨vr, rfl, HB.out.trans (H4.out.1.mono HB.out.size), H4.out.2⟩

set_option maxHeartbeats 2000000 in
theorem mapS_any (p : Nat) (S : SpaceM) (v b c : Int) (w : World) (hS : SpaceAt TNode TSp w p S) (hwf : S.WF) :
    Calls Tryz.prog 22 #[.pointer (some ⟨p, 0, none⟩), .int .i64 v, .int .i64 b, .int .i64 c] w (Res2 w (S.map v b c)) := by
  have hb1 := (Below.refl w.heap.size w).alloc (Nat.le_refl _) (.cells #[.int .i64 b] 3)
  have hb0 := hb1.alloc hb1.size (.cells #[.int .i64 c] 3)
  have HT := Lib.hid (blockOK_any b ((w.alloc (.cells #[.int .i64 b] 3)).alloc (.cells #[.int .i64 c] 3)))
  have hC0 : ((w.alloc (.cells #[.int .i64 b] 3)).alloc (.cells #[.int .i64 c] 3)).cell? ⟨w.heap.size, 0, none⟩ = some (.int .i64 b) := by rw [World.cell?_alloc_lt _ _ _ (by simp)]; exact cells_at (heap_alloc_new _ _) 0
  have hD0 : ((w.alloc (.cells #[.int .i64 b] 3)).alloc (.cells #[.int .i64 c] 3)).cell? ⟨w.heap.size + 1, 0, none⟩ = some (.int .i64 c) := cells_at (heap_alloc2_new w _ _) 0
  have hch := mapch_any p S v b c w.heap.size (w.heap.size + 1) ((w.alloc (.cells #[.int .i64 b] 3)).alloc (.cells #[.int .i64 c] 3)) (hS.below hb0) hwf hC0 (by simp; omega) hD0 (by simp)
  have HB := Lib.hid hb0
  have HX := Lib.hid (And.intro hC0 hD0)
  cases hb : blkB b with
  | false =>
    rw [hb] at HT hch
    rw [Bool.false_and] at hch
    have HC := Lib.hid hch
    clear hb0 hb1 hS hwf hb hC0 hD0 hch HX
    go_enter Tryz.func22, Tryz.ntmps22
    go_wp2_with (first
      | (go_at_call 60; refine HT.out.mono ?_; rintro e w' ⟨rfl, rfl⟩)
      | (go_at_call 57; refine HC.out.mono ?_; rintro e w2 ⟨vr, rfl, h3, h4⟩; have H4 := Lib.hid (And.intro h3 h4); clear h3 h4))
    refine bodyPost_ret (v := .tuple #[vr, .int .i64 (S.map v b c).e]) (by simp [results, Tryz.results22, go_sem]) rfl ?_
    exact ⟨vr, rfl, HB.out.trans (H4.out.1.mono HB.out.size), H4.out.2⟩
  | true =>
    rw [hb] at HT hch
    rw [Bool.true_and] at hch
    by_cases h0 : 0 ≤ c
    · by_cases h1 : c < 2147483648
      · have hk : chkB c = true := SpaceM.chkB_iff.2 ⟨h0, h1⟩
        rw [hk] at hch
        have HC := Lib.hid hch
        have h0d : decide (0 ≤ c) = true := decide_eq_true h0
        have h1d : decide (c < 2147483648) = true := decide_eq_true h1
        clear hb0 hb1 hS hwf hb hC0 hD0 hch HX hk h0 h1
        go_enter Tryz.func22, Tryz.ntmps22
        go_wp2_with (first
          | (go_at_call 60; refine HT.out.mono ?_; rintro e w' ⟨rfl, rfl⟩)
          | (go_at_call 57; refine HC.out.mono ?_; rintro e w2 ⟨vr, rfl, h3, h4⟩; have H4 := Lib.hid (And.intro h3 h4); clear h3 h4))
        refine bodyPost_ret (v := .tuple #[vr, .int .i64 (S.map v b c).e]) (by simp [results, Tryz.results22, go_sem]) rfl ?_
        exact ⟨vr, rfl, HB.out.trans (H4.out.1.mono HB.out.size), H4.out.2⟩
      · have hk : chkB c = false := by unfold chkB; simp [h1]
        rw [hk] at hch
        have HC := Lib.hid hch
        have h0d : decide (0 ≤ c) = true := decide_eq_true h0
        have h1d : decide (c < 2147483648) = false := decide_eq_false h1
        clear hb0 hb1 hS hwf hb hC0 hD0 hch HX hk h0 h1
        go_enter Tryz.func22, Tryz.ntmps22
        go_wp2_with (first
          | (go_at_call 60; refine HT.out.mono ?_; rintro e w' ⟨rfl, rfl⟩)
          | (go_at_call 57; refine HC.out.mono ?_; rintro e w2 ⟨vr, rfl, h3, h4⟩; have H4 := Lib.hid (And.intro h3 h4); clear h3 h4))
        refine bodyPost_ret (v := .tuple #[vr, .int .i64 (S.map v b c).e]) (by simp [results, Tryz.results22, go_sem]) rfl ?_
        exact ⟨vr, rfl, HB.out.trans (H4.out.1.mono HB.out.size), H4.out.2⟩
    · have hk : chkB c = false := by unfold chkB; simp [h0]
      rw [hk] at hch
      have HC := Lib.hid hch
      have h0d : decide (0 ≤ c) = false := decide_eq_false h0
      clear hb0 hb1 hS hwf hb hC0 hD0 hch HX hk h0
      go_enter Tryz.func22, Tryz.ntmps22
      go_wp2_with (first
        | (go_at_call 60; refine HT.out.mono ?_; rintro e w' ⟨rfl, rfl⟩)
        | (go_at_call 57; refine HC.out.mono ?_; rintro e w2 ⟨vr, rfl, h3, h4⟩; have H4 := Lib.hid (And.intro h3 h4); clear h3 h4))
      refine bodyPost_ret (v := .tuple #[vr, .int .i64 (S.map v b c).e]) (by simp [results, Tryz.results22, go_sem]) rfl ?_
      exact ⟨vr, rfl, HB.out.trans (H4.out.1.mono HB.out.size), H4.out.2⟩

set_option maxRecDepth 20000 in
set_option maxHeartbeats 2000000 in
theorem restore1_any (p g n cap i C D : Nat) (q3 : Option Addr) (m3 : MapM) (w : World) (hi : i < n) (hn : n ≤ 256) (hc : w.cell? ⟨C, 0, none⟩ = some (.pointer (some ⟨p, 0, none⟩)) ∧ w.cell? ⟨D, 0, none⟩ = some (.int .i64 (i : Int)) ∧ w.cell? ⟨p, 1, none⟩ = some (.slice (some ⟨g, 0, none⟩) n cap) ∧ w.cell? ⟨g, i * 5 + 2, none⟩ = some (.pointer q3) ∧ w.cell? ⟨g, i * 5 + 3, none⟩ = some (.int .i64 (cnt m3 : Int))) (hlC : C < w.heap.size) (hlD : D < w.heap.size) (hlp : p < w.heap.size) (hlg : g < w.heap.size) (hN : NodeAt TNode w 2 (.pointer q3) m3) :
    HowOk 70 #[.pointer (some ⟨C, 0, none⟩), .pointer (some ⟨D, 0, none⟩)] (fun x => { x with m := m3 }) w := by
  intro W B x q hB hsm hs hnx
  have hbw := hsm.below_of hs
  obtain ⟨a1, a2, a3, a4, a5⟩ := hc
  have hS0 : W.drew.cell? ⟨C, 0, none⟩ = some (.pointer (some ⟨p, 0, none⟩)) ∧ W.drew.cell? ⟨D, 0, none⟩ = some (.int .i64 (i : Int)) ∧ W.drew.cell? ⟨p, 1, none⟩ = some (.slice (some ⟨g, 0, none⟩) n cap) ∧ W.drew.cell? ⟨g, i * 5 + 2, none⟩ = some (.pointer q3) ∧ W.drew.cell? ⟨g, i * 5 + 3, none⟩ = some (.int .i64 (cnt m3 : Int)) := ⟨(hbw.cell (p := ⟨C, 0, none⟩) hlC).trans a1, (hbw.cell (p := ⟨D, 0, none⟩) hlD).trans a2, (hbw.cell (p := ⟨p, 1, none⟩) hlp).trans a3, (hbw.cell (p := ⟨g, i * 5 + 2, none⟩) hlg).trans a4, (hbw.cell (p := ⟨g, i * 5 + 3, none⟩) hlg).trans a5⟩
  have HS := Lib.hid (And.intro hsm (And.intro hs hN))
  have hin : (i : Int) < (n : Int) := by omega
  have hin2 : (n : Int) ≤ 256 := by omega
  clear hbw hsm hs hnx hN a1 a2 a3 a4 a5
  simp only [List.append_toArray, List.cons_append, List.nil_append]
  go_enter Tryz.func70, Tryz.ntmps70
  go_upto_region 0 with (fail)
  refine reg_begin (fun w' => w'.cell? ⟨C, 0, none⟩ = some (.pointer (some ⟨p, 0, none⟩)) ∧ w'.cell? ⟨D, 0, none⟩ = some (.int .i64 (i : Int)) ∧ w'.cell? ⟨p, 1, none⟩ = some (.slice (some ⟨g, 0, none⟩) n cap) ∧ w'.cell? ⟨g, i * 5 + 2, none⟩ = some (.pointer q3) ∧ w'.cell? ⟨g, i * 5 + 3, none⟩ = some (.int .i64 (cnt m3 : Int))) (by kernel_rfl) ?_
  (apply reg_take 0 rfl rfl (by decide +kernel) rfl); (rintro w' ⟨h1, h2, h3, h4, h5⟩; go_simp; rfl); exact hS0; simp only [List.setIfInBounds_toArray, List.set_cons_succ, List.set_cons_zero]
  (apply reg_take 1 rfl rfl (by decide +kernel) rfl); (rintro w' ⟨h1, h2, h3, h4, h5⟩; go_simp; rfl); exact hS0; simp only [List.setIfInBounds_toArray, List.set_cons_succ, List.set_cons_zero]
  (apply reg_take 2 rfl rfl (by decide +kernel) rfl); (rintro w' ⟨h1, h2, h3, h4, h5⟩; go_simp; rfl); exact hS0; simp only [List.setIfInBounds_toArray, List.set_cons_succ, List.set_cons_zero]
  (apply reg_take 3 rfl rfl (by decide +kernel) rfl); (rintro w' ⟨h1, h2, h3, h4, h5⟩; go_simp; rfl); exact hS0; simp only [List.setIfInBounds_toArray, List.set_cons_succ, List.set_cons_zero]
  (apply reg_take 4 rfl rfl (by decide +kernel) rfl); (rintro w' ⟨h1, h2, h3, h4, h5⟩; go_simp; rfl); exact hS0; simp only [List.setIfInBounds_toArray, List.set_cons_succ, List.set_cons_zero]
  (apply reg_take 5 rfl rfl (by decide +kernel) rfl); (rintro w' ⟨h1, h2, h3, h4, h5⟩; go_simp; rfl); exact hS0; simp only [List.setIfInBounds_toArray, List.set_cons_succ, List.set_cons_zero]
  (apply reg_take 6 rfl rfl (by decide +kernel) rfl); (rintro w' ⟨h1, h2, h3, h4, h5⟩; go_simp; rfl); exact hS0; simp only [List.setIfInBounds_toArray, List.set_cons_succ, List.set_cons_zero]
  (apply reg_take 7 rfl rfl (by decide +kernel) rfl); (rintro w' ⟨h1, h2, h3, h4, h5⟩; go_simp; rfl); exact hS0; simp only [List.setIfInBounds_toArray, List.set_cons_succ, List.set_cons_zero]
  (apply reg_take 8 rfl rfl (by decide +kernel) rfl); (rintro w' ⟨h1, h2, h3, h4, h5⟩; go_simp; rfl); exact hS0; simp only [List.setIfInBounds_toArray, List.set_cons_succ, List.set_cons_zero]
  (apply reg_take 9 rfl rfl (by decide +kernel) rfl); (rintro w' ⟨h1, h2, h3, h4, h5⟩; go_simp; rfl); exact hS0; simp only [List.setIfInBounds_toArray, List.set_cons_succ, List.set_cons_zero]
  (apply reg_take 10 rfl rfl (by decide +kernel) rfl); (rintro w' ⟨h1, h2, h3, h4, h5⟩; go_simp; rfl); exact hS0; simp only [List.setIfInBounds_toArray, List.set_cons_succ, List.set_cons_zero]
  (apply reg_take 11 rfl rfl (by decide +kernel) rfl); (rintro w' ⟨h1, h2, h3, h4, h5⟩; go_simp; rfl); exact hS0; simp only [List.setIfInBounds_toArray, List.set_cons_succ, List.set_cons_zero]
  (apply reg_take 12 rfl rfl (by decide +kernel) rfl); (rintro w' ⟨h1, h2, h3, h4, h5⟩; go_simp; rfl); exact hS0; simp only [List.setIfInBounds_toArray, List.set_cons_succ, List.set_cons_zero]
  have hs3 : Sat W.drew (pts B (.cells (volA x q) TVol (0, 0)) * old w) := HS.out.2.1.drew
  have hm3 : Same w W.drew := HS.out.1.drew
  have e2 : W.cell? ⟨B, 2, none⟩ = some (.pointer q) := cells_at HS.out.2.1.block 2
  have e3 : W.cell? ⟨B, 3, none⟩ = some (.int .i64 (cnt x.m : Int)) := cells_at HS.out.2.1.block 3
  have f2 := thawed_at HS.out.2.1.block 2
  have f3 := thawed_at HS.out.2.1.block 3
  refine reg_do_last 13 ((W.drew.setCell ⟨B, 2, none⟩ (.pointer q3)).setCell ⟨B, 3, none⟩ (.int .i64 (cnt m3 : Int))) rfl rfl (by decide +kernel) rfl (by go_simp) ?_
  have h9 := (hs3.setCell (i := 2) (.pointer q3)).setCell (i := 3) (.int .i64 (cnt m3 : Int))
  have h8 := (hm3.setCell ⟨B, 2, none⟩ (.pointer q3)).setCell ⟨B, 3, none⟩ (.int .i64 (cnt m3 : Int))
  have HO := Lib.hid (And.intro h8 (And.intro h9 (NodeAt.below (h8.below_of h9) HS.out.2.2)))
  clear h8 h9 hS0 e2 e3 f2 f3 hs3 hm3
  go_wp2
  go_end0
  exact ⟨rfl, q3, HO.out⟩

set_option maxHeartbeats 2000000 in
theorem restoreS_any (p : Nat) (S : SpaceM) (v b : Int) (w : World) (hS : SpaceAt TNode TSp w p S) (hwf : S.WF) :
    Calls Tryz.prog 27 #[.pointer (some ⟨p, 0, none⟩), .int .i64 v, .int .i64 b] w (Res2 w (S.restore v b)) := by
  have HS := Lib.hid hS
  obtain ⟨lv, ls, hlv, hls, ⟨vv, vs, hp, hrv, hrs⟩, hev, hes⟩ := hS
  obtain ⟨ao, cap, rfl, hvx⟩ := id hrv
  obtain ⟨so, scap, rfl, hsx⟩ := id hrs
  obtain ⟨c0, c1, hpl⟩ := sp_cells hp
  have hlen : S.snaps.length = ls.length := by rw [← hls, List.length_map]
  have hn256 : ls.length ≤ 256 := by rw [← hlen]; exact hwf.slen
  have hb0 := (Below.refl w.heap.size w).alloc (Nat.le_refl _) (.cells #[.pointer (some ⟨p, 0, none⟩)] 24)
  have H1 := Lib.hid (And.intro ((Same.refl w).alloc (.cells #[.pointer (some ⟨p, 0, none⟩)] 24)) ((Sat.old w).alloc (.cells #[.pointer (some ⟨p, 0, none⟩)] 24)))
  have hat := atsnap_any (.slice so ls.length scap) ls b _ (hrs.below hb0)
  have d1 := (hb0.cell (p := ⟨p, 1, none⟩) hpl).trans c1
  have HB0 := Lib.hid hb0
  rcases at_cases hls b with ⟨hn, hi⟩ | ⟨x, hx, hsome, hi, hlt, hid, hae⟩
  · have HM := Lib.hid (show S.restore v b = ⟨none, 0, 12⟩ by unfold SpaceM.restore; rw [hn])
    rw [hi] at hat
    have HA := Lib.hid hat
    clear hlv hls hp hrv hrs hev hes hn hi hat hlen hb0 c0
    go_enter Tryz.func27, Tryz.ntmps27
    go_wp2_with (go_at_call 49; refine HA.out.mono ?_; rintro e w1 ⟨rfl, h2⟩)
    refine bodyPost_ret (v := .tuple #[.pointer none, .int .i64 12]) (by simp [results, Tryz.results27, go_sem]) rfl ?_
    rw [HM.out]
    exact ⟨_, rfl, (HB0.out.trans (h2.mono HB0.out.size)).alloc (Nat.le_trans HB0.out.size h2.size) _, rfl⟩
  · have HM := Lib.hid (show S.restore v b = S.change v true fun q => { q with m := x.1.m } by unfold SpaceM.restore; rw [hsome])
    rw [hi] at hat
    have HA := Lib.hid hat
    obtain ⟨g, rfl, hgl, e0, e1, e2, e3, e4⟩ := snap_cells hrs hx
    have hN := hes x (List.mem_of_getElem? hx)
    obtain ⟨q, hq⟩ := NodeAt.ptr hN
    rw [hq] at e2 hN
    have HK := Lib.hid (And.intro hN (And.intro e2 (And.intro e3 (And.intro c1 (And.intro hgl hpl)))))
    generalize atE ls b = i at *
    have hcf := enters_of Tryz.func70 (by kernel_rfl) rfl
    have hch := fun (W : World) (C D : Nat) (hbw : Below w.heap.size w W) (hc : W.cell? ⟨C, 0, none⟩ = some (.pointer (some ⟨p, 0, none⟩))) (hd : W.cell? ⟨D, 0, none⟩ = some (.int .i64 (i : Int))) (hlC : C < W.heap.size) (hlD : D < W.heap.size) =>
      change_any p S v true 70 #[.pointer (some ⟨C, 0, none⟩), .pointer (some ⟨D, 0, none⟩)] (fun q => { q with m := x.1.m }) W (HS.out.below hbw) hwf hcf
        (restore1_any p g ls.length scap i C D q x.1.m W hlt hn256 ⟨hc, hd, (hbw.cell (p := ⟨p, 1, none⟩) hpl).trans c1, (hbw.cell (p := ⟨g, i * 5 + 2, none⟩) hgl).trans e2, (hbw.cell (p := ⟨g, i * 5 + 3, none⟩) hgl).trans e3⟩ hlC hlD (Nat.lt_of_lt_of_le hpl hbw.size) (Nat.lt_of_lt_of_le hgl hbw.size) (NodeAt.below hbw hN))
    have HC := Lib.hid hch
    clear hlv hls hp hrv hrs hev hes hsome hi hat hN hq hid hae hx hvx hsx hwf hch hcf hlen e0 e1 e2 e3 e4 c0 c1 hb0
    go_enter Tryz.func27, Tryz.ntmps27
    go_upto_region 4 with (go_at_call 49; refine HA.out.mono ?_; clear HA; rintro e w1 ⟨rfl, h2⟩; have H2 := Lib.hid h2; clear h2)
    have hbw1 := HB0.out.trans (H2.out.mono HB0.out.size)
    have hs1 := (H1.out.2.below H2.out).alloc (.cells #[.int .i64 (i : Int)] 3)
    have hbw2 := hbw1.alloc hbw1.size (.cells #[.int .i64 (i : Int)] 3)
    have f0 := cells_at hs1.right.block 0
    have f1 := cells_at hs1.block 0
    have hc2 := HC.out _ w.heap.size w1.heap.size hbw2 f0 f1 hs1.right.lt hs1.lt
    have HC2 := Lib.hid hc2
    have HBW := Lib.hid hbw2
    clear d1 hbw1 hs1 hbw2 hc2
    generalize w1.alloc (.cells #[.int .i64 (i : Int)] 3) = W2 at f0 f1 HC2 HBW ⊢
    go_wp2_with (go_at_call 57; refine HC2.out.mono ?_; rintro e w3 ⟨vr, rfl, h3, h4⟩; have H4 := Lib.hid (And.intro h3 h4); clear h3 h4)
    refine bodyPost_ret (v := .tuple #[vr, .int .i64 (S.change v true fun q => { q with m := x.1.m }).e]) (by simp [results, Tryz.results27, go_sem]) rfl ?_
    rw [HM.out]
    exact ⟨vr, rfl, HBW.out.trans (H4.out.1.mono HBW.out.size), H4.out.2⟩

end Go.Proofs.YtednjhlkhecihaaGreatDoor
