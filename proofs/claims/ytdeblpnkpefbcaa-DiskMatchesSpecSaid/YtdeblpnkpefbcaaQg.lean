/- solventref16.Rot. Printed by qg.py. -/
import Derived.Test.YtdeblpnkpefbcaaQf
namespace Go.Sl
open Go Go.RowKit
def rotD (D : DiskM) (k b : Nat) : DiskM := { D with dur := fupd D.dur k (DiskM.flip (D.dur k) b), cache := fupd D.cache k ((D.cache k).map fun s => DiskM.flip s b) }
end Go.Sl
namespace Go.Proofs.Ytdeblpnkpefbcaa
open Go.RowKit Go.Sl Go.ChangeMaps

theorem ref_rot {D : DiskM} {L : List SecV} (h : RefOf D L) {k : Nat} {x : SecV} (hx : L[k]? = some x) (b : Nat) (c' : List UInt8) (hc : ∀ s, D.cache k = some s → c' = DiskM.flip s b) (v v' : Value) : RefOf (rotD D k b) (L.set k (cacd (durd x.1 (DiskM.flip x.1.dur b)) c', v, v')) := by
  refine ⟨by rw [List.length_set]; exact h.len, fun i y hy => ?_, fun i y hy => ?_, fun i y s hy hs => ?_, fun i y hy => ?_⟩
  · rcases set_get hy with ⟨rfl, rfl⟩ | ⟨hne, h2⟩
    · show DiskM.flip x.1.dur b = fupd D.dur i (DiskM.flip (D.dur i) b) i
      unfold fupd; rw [if_pos rfl, h.dur i x hx]
    · rw [h.dur i y h2]
      show _ = fupd D.dur k _ i
      unfold fupd; rw [if_neg hne]
  · rcases set_get hy with ⟨rfl, rfl⟩ | ⟨hne, h2⟩
    · show x.1.pend = (fupd D.cache i ((D.cache i).map fun s => DiskM.flip s b) i).isSome
      unfold fupd; rw [if_pos rfl, Option.isSome_map]; exact h.pend i x hx
    · rw [h.pend i y h2]
      show _ = (fupd D.cache k _ i).isSome
      unfold fupd; rw [if_neg hne]
  · rcases set_get hy with ⟨rfl, rfl⟩ | ⟨hne, h2⟩
    · have hs' : fupd D.cache i ((D.cache i).map fun s => DiskM.flip s b) i = some s := hs
      unfold fupd at hs'; rw [if_pos rfl] at hs'
      obtain ⟨t, ht, rfl⟩ := Option.map_eq_some_iff.1 hs'
      exact hc t ht
    · have hs' : fupd D.cache k ((D.cache k).map fun s => DiskM.flip s b) i = some s := hs
      unfold fupd at hs'; rw [if_neg hne] at hs'
      exact h.cac i y s h2 hs'
  · rcases set_get hy with ⟨rfl, rfl⟩ | ⟨_, h2⟩
    · exact h.fault i x hx
    · exact h.fault i y h2
set_option maxRecDepth 20000 in
set_option maxHeartbeats 4000000 in
theorem rrot_any (p : Nat) (D : DiskM) (F : HProp) (i bit : Int) (w : World) (hS : Sat w (refD RT p D * F)) :
    Calls Try.prog 38 #[.pointer (some ⟨p, 0, none⟩), .int .i64 i, .int .i64 bit] w fun e w' => e = .returned (.int .i64 (D.rot i bit).2) ∧ Hid (Same w w' ∧ Sat w' (refD RT p (D.rot i bit).1 * F)) := by
  obtain ⟨v, L, ⟨hwf, hr⟩, hs⟩ := refD_iff.1 hS
  have c0 : w.cell? ⟨p, 0, none⟩ = some v := cells_at hs.block 0
  obtain ⟨ao, cap, rfl⟩ := ownAt_slice hs.right
  have HI := Lib.hid (fun i => ris_any p (.slice ao L.length cap) L.length i w c0 ⟨ao, cap, rfl⟩)
  have hin := ref_n hr
  obtain ⟨G, hG⟩ : ∃ G, Hid (D.rot i bit = G) := ⟨_, Lib.hid rfl⟩
  rw [hG.out]
  obtain ⟨n, hn⟩ : ∃ n, L.length = n := ⟨_, rfl⟩
  rw [hn] at HI hin c0
  by_cases hi : 0 ≤ i ∧ i < (n : Int)
  case neg =>
    have hb := in_false hi
    have hh : D.has i = false := by rw [hin]; exact hb
    obtain rfl : (D, 1) = G := by rw [← hG.out]; unfold DiskM.rot; rw [hh]; rfl
    have HF := Lib.hid (And.intro (Same.refl w) hS)
    clear hG hs hS hr hwf hi hin hn hh
    go_enter Try.func38, Try.ntmps38
    go_wp2_with (go_at_call 53; refine (HI.out _).mono ?_; rintro e w' ⟨rfl, rfl⟩; rw [hb])
    go_ret
    exact ⟨rfl, HF.out⟩
  have hb := in_true hi
  have hh : D.has i = true := by rw [hin]; exact hb
  by_cases hb0 : bit < 0
  case pos =>
    have d0 : decide (bit < 0) = true := decide_eq_true hb0
    obtain rfl : (D, 1) = G := by rw [← hG.out]; unfold DiskM.rot; rw [if_neg (by omega)]
    have HF := Lib.hid (And.intro (Same.refl w) hS)
    clear hG hs hS hr hwf hi hin hn hh hb0
    go_enter Try.func38, Try.ntmps38
    go_wp2_with (go_at_call 53; refine (HI.out _).mono ?_; rintro e w' ⟨rfl, rfl⟩; rw [hb])
    go_ret
    exact ⟨rfl, HF.out⟩
  have d0 : decide (bit < 0) = false := decide_eq_false hb0
  by_cases hb5 : 512 ≤ bit
  case pos =>
    have d5 : decide (512 ≤ bit) = true := decide_eq_true hb5
    obtain rfl : (D, 1) = G := by rw [← hG.out]; unfold DiskM.rot; rw [if_neg (by omega)]
    have HF := Lib.hid (And.intro (Same.refl w) hS)
    clear hG hs hS hr hwf hi hin hn hh hb0 hb5
    go_enter Try.func38, Try.ntmps38
    go_wp2_with (go_at_call 53; refine (HI.out _).mono ?_; rintro e w' ⟨rfl, rfl⟩; rw [hb])
    go_ret
    exact ⟨rfl, HF.out⟩
  have d5 : decide (512 ≤ bit) = false := decide_eq_false hb5
  obtain ⟨k, rfl⟩ := Int.eq_ofNat_of_zero_le hi.1
  obtain ⟨m, rfl⟩ := Int.eq_ofNat_of_zero_le (show 0 ≤ bit by omega)
  have hk : k < L.length := by omega
  obtain ⟨x, hx⟩ : ∃ x, L[k]? = some x := ⟨_, List.getElem?_eq_getElem hk⟩
  obtain ⟨g, rfl, -⟩ := sec_cells hs.right hx
  have ho : Sat w (refO p g L.length cap L F) := hs
  rw [hn] at ho
  obtain ⟨-, e0, e1, e2, e3, ef⟩ := refO_cells ho hx
  have f0 := ef (k * 4)
  have hki : (k : Int) < (n : Int) := hi.2
  have hk0 : (0 : Int) ≤ (k : Int) := hi.1
  have hm5 : m < 512 := by omega
  have hGv : G = (rotD D k m, 0) := by rw [← hG.out]; unfold DiskM.rot rotD; rw [if_pos ⟨hh, by omega, by omega⟩]; simp
  have hwf' := hwf.rot (k : Int) (m : Int)
  rw [hG.out, hGv] at hwf'
  subst hGv
  have hxd : x.1.dur.length = 64 := by rw [hr.dur k x hx]; exact hwf.dur k (by have := hr.len; omega)
  have HXC := Lib.hid (show ∀ s, D.cache k = some s → x.1.cac = s ∧ s.length = 64 from fun s h => ⟨hr.cac k x s hx h, (hwf.cache k s h).2⟩)
  have HPE := Lib.hid (hr.pend k x hx)
  obtain ⟨R1, R2, hrd, hrc⟩ := refO_rows ho hx
  have HT := Lib.hid (rturn_any x.2.1 x.1.dur m _ w.drew (Sat.drew ho) ⟨R1, hrd.drew⟩ hxd hm5)
  have HRR := Lib.hid (ref_rot hr hx m)
  have HX := Lib.hid hx
  have HW := Lib.hid hwf'
  have HM := Lib.hid hm5
  have HK := Lib.hid hk
  clear hG hs hS hr hwf hwf' hi hin hn hh hb0 hb5 hk hm5 hrd hrc hx ef hxd ho e1 e2 e3
  obtain ⟨mi, hmi⟩ : ∃ mi : Int, Hid ((m : Int) = mi) := ⟨_, Lib.hid rfl⟩
  rw [hmi.out] at HT d0 d5 ⊢
  go_enter Try.func38, Try.ntmps38
  go_upto_region 3 with (go_at_call 53; refine (HI.out _).mono ?_; rintro e w' ⟨rfl, rfl⟩; rw [hb])
  have hS0 : w.drew.cell? ⟨p, 0, none⟩ = some (.slice (some ⟨g, 0, none⟩) n cap) ∧ w.drew.cell? ⟨g, k * 4, none⟩ = some x.2.1 := ⟨c0, e0⟩
  refine reg_begin (fun w' => w'.cell? ⟨p, 0, none⟩ = some (.slice (some ⟨g, 0, none⟩) n cap) ∧ w'.cell? ⟨g, k * 4, none⟩ = some x.2.1) (by kernel_rfl) ?_
  (apply reg_take 0 rfl rfl (by decide +kernel) rfl); (rintro w' ⟨h1, h2⟩; go_simp; rfl); exact hS0; simp only [List.setIfInBounds_toArray, List.set_cons_succ, List.set_cons_zero]
  (apply reg_take 1 rfl rfl (by decide +kernel) rfl); (rintro w' ⟨h1, h2⟩; go_simp; rfl); exact hS0; simp only [List.setIfInBounds_toArray, List.set_cons_succ, List.set_cons_zero]
  (apply reg_take 2 rfl rfl (by decide +kernel) rfl); (rintro w' ⟨h1, h2⟩; go_simp; rfl); exact hS0; simp only [List.setIfInBounds_toArray, List.set_cons_succ, List.set_cons_zero]
  (apply reg_take 3 rfl rfl (by decide +kernel) rfl); (rintro w' ⟨h1, h2⟩; go_simp; rfl); exact hS0; simp only [List.setIfInBounds_toArray, List.set_cons_succ, List.set_cons_zero]
  (apply reg_take 4 rfl rfl (by decide +kernel) rfl); (rintro w' ⟨h1, h2⟩; go_simp; rfl); exact hS0; simp only [List.setIfInBounds_toArray, List.set_cons_succ, List.set_cons_zero]
  (apply reg_take 5 rfl rfl (by decide +kernel) rfl); (rintro w' ⟨h1, h2⟩; go_simp; rfl); exact hS0; simp only [List.setIfInBounds_toArray, List.set_cons_succ, List.set_cons_zero]
  (apply reg_take 6 rfl rfl (by decide +kernel) rfl); (rintro w' ⟨h1, h2⟩; go_simp; rfl); exact hS0; simp only [List.setIfInBounds_toArray, List.set_cons_succ, List.set_cons_zero]
  (apply reg_take 7 rfl rfl (by decide +kernel) rfl); (rintro w' ⟨h1, h2⟩; go_simp; rfl); exact hS0; simp only [List.setIfInBounds_toArray, List.set_cons_succ, List.set_cons_zero]
  (apply reg_take 8 rfl rfl (by decide +kernel) rfl); (rintro w' ⟨h1, h2⟩; go_simp; rfl); exact hS0; simp only [List.setIfInBounds_toArray, List.set_cons_succ, List.set_cons_zero]
  (apply reg_take 9 rfl rfl (by decide +kernel) rfl); (rintro w' ⟨h1, h2⟩; go_simp; rfl); exact hS0; simp only [List.setIfInBounds_toArray, List.set_cons_succ, List.set_cons_zero]
  (apply reg_take 10 rfl rfl (by decide +kernel) rfl); (rintro w' ⟨h1, h2⟩; go_simp; rfl); exact hS0; simp only [List.setIfInBounds_toArray, List.set_cons_succ, List.set_cons_zero]
  (apply reg_take 11 rfl rfl (by decide +kernel) rfl); (rintro w' ⟨h1, h2⟩; go_simp; rfl); exact hS0; simp only [List.setIfInBounds_toArray, List.set_cons_succ, List.set_cons_zero]
  (apply reg_take 12 rfl rfl (by decide +kernel) rfl); (rintro w' ⟨h1, h2⟩; go_simp; rfl); exact hS0; simp only [List.setIfInBounds_toArray, List.set_cons_succ, List.set_cons_zero]
  (apply reg_take 13 rfl rfl (by decide +kernel) rfl); (rintro w' ⟨h1, h2⟩; go_simp; rfl); exact hS0; simp only [List.setIfInBounds_toArray, List.set_cons_succ, List.set_cons_zero]
  refine reg_call 14 rfl rfl (by decide +kernel) rfl (f := 55) (args := #[x.2.1, .int .i64 mi]) (R := fun v w' => Hid (Same w.drew w' ∧ Sat w' (rowB TU8 v (DiskM.flip x.1.dur m) * refO p g n cap L F))) (by kernel_rfl) (HT.out.mono fun e w' h => by obtain ⟨v, rfl, h2⟩ := h; exact ⟨_, rfl, h2⟩) ?_
  rintro v1 w1 h1
  have hL1 : (DiskM.flip x.1.dur m).length = (DiskM.flip x.1.dur m).length := rfl
  have ho1 : Sat w1 (refO p g n cap L (rowB TU8 v1 (DiskM.flip x.1.dur m) * F)) := h1.out.2.perm (by unfold refO; ac_rfl)
  obtain ⟨a1, cp1, rfl, -⟩ := bytes_cells h1.out.2
  obtain ⟨c1, e01, -, -, -, ef1⟩ := refO_cells ho1 HX.out
  have hS1 : w1.cell? ⟨p, 0, none⟩ = some (.slice (some ⟨g, 0, none⟩) n cap) ∧ w1.cell? ⟨g, k * 4, none⟩ = some x.2.1 := ⟨c1, e01⟩
  refine ⟨hS1, ?_⟩
  simp only [List.setIfInBounds_toArray, List.set_cons_succ, List.set_cons_zero]
  (apply reg_take 15 rfl rfl (by decide +kernel) rfl); (rintro w' ⟨h1, h2⟩; go_simp; rfl); exact hS1; simp only [List.setIfInBounds_toArray, List.set_cons_succ, List.set_cons_zero]
  (apply reg_take 16 rfl rfl (by decide +kernel) rfl); (rintro w' ⟨h1, h2⟩; go_simp; rfl); exact hS1; simp only [List.setIfInBounds_toArray, List.set_cons_succ, List.set_cons_zero]
  obtain ⟨ip, hip, hip2⟩ := Option.map_eq_some_iff.1 (show (Try.prog.info? 56).map (·.size) = some 1 by kernel_rfl)
  refine reg_do_last 17 (w1.setCell ⟨g, k * 4, none⟩ (.slice a1 (DiskM.flip x.1.dur m).length cp1)) rfl rfl (by decide +kernel) rfl (exec_store_cell rfl rfl rfl hip hip2 rfl e01 (ef1 (k * 4))) ?_
  have hst := refO_store ho1 HX.out (durd x.1 (DiskM.flip x.1.dur m), .slice a1 (DiskM.flip x.1.dur m).length cp1, x.2.2) 0 (.slice a1 (DiskM.flip x.1.dur m).length cp1) (by omega) rfl (secB_dur x _ _ _)
  have H2 := Lib.hid (show Same w (w1.setCell ⟨g, k * 4, none⟩ (.slice a1 (DiskM.flip x.1.dur m).length cp1)) ∧ _ from And.intro (((Same.refl w).drew.trans h1.out.1).setCell _ _) (refO_drop hst))
  clear hS0 hS1 c0 e0 f0 c1 e01 ef1 ho1 hst hip hip2 ip hL1
  generalize hW2 : w1.setCell ⟨g, k * 4, none⟩ _ = W2 at H2 ⊢
  clear hW2
  have hx2 : (L.set k (durd x.1 (DiskM.flip x.1.dur m), Value.slice a1 (DiskM.flip x.1.dur m).length cp1, x.2.2))[k]? = some (durd x.1 (DiskM.flip x.1.dur m), Value.slice a1 (DiskM.flip x.1.dur m).length cp1, x.2.2) := by rw [List.getElem?_set_self HK.out]
  obtain ⟨c0, -, e1, e2, -, ef⟩ := refO_cells H2.out.2 hx2
  have e2' : W2.cell? ⟨g, k * 4 + 2, none⟩ = some (.bool x.1.pend) := e2
  have e1' : W2.cell? ⟨g, k * 4 + 1, none⟩ = some x.2.2 := e1
  clear e1 e2
  cases hp : x.1.pend
  · have hcn : D.cache k = none := by
      have h := HPE.out
      rw [hp] at h
      cases hc : D.cache k with
      | none => rfl
      | some s => rw [hc] at h; cases h
    rw [hp] at e2'
    have hr2 := HRR.out x.1.cac (fun s hs => by rw [hcn] at hs; cases hs) (.slice a1 (DiskM.flip x.1.dur m).length cp1) x.2.2
    have HF := Lib.hid (refO_refD HW.out hr2 H2.out.2)
    clear ef hx2 e1' hp hcn hr2
    go_wp2
    go_ret
    exact ⟨rfl, H2.out.1, HF.out⟩
  · obtain ⟨s, hcs⟩ : ∃ s, D.cache k = some s := Option.isSome_iff_exists.1 (by rw [← HPE.out]; exact hp)
    rw [hp] at e2'
    obtain ⟨hcc, hs64⟩ := HXC.out s hcs
    obtain ⟨R1, R2, -, hrc⟩ := refO_rows H2.out.2 hx2
    have hrc' : Sat W2 (rowB TU8 x.2.2 x.1.cac * R2) := hrc
    rw [hcc] at hrc'
    have HT2 := Lib.hid (rturn_any x.2.2 s m _ W2.drew (Sat.drew H2.out.2) ⟨R2, hrc'.drew⟩ hs64 HM.out)
    rw [hmi.out] at HT2
    have HP := Lib.hid (HRR.out (DiskM.flip s m) (fun t ht => by rw [hcs] at ht; rw [Option.some.inj ht]) (.slice a1 (DiskM.flip x.1.dur m).length cp1))
    have HX2 := Lib.hid hx2
    clear ef hx2 hp hcs hcc hs64 hrc hrc'
    go_upto_region 5 with (fail)
    clear e2'
    have hS0 : W2.drew.cell? ⟨p, 0, none⟩ = some (.slice (some ⟨g, 0, none⟩) n cap) ∧ W2.drew.cell? ⟨g, k * 4 + 1, none⟩ = some x.2.2 := ⟨c0, e1'⟩
    refine reg_begin (fun w' => w'.cell? ⟨p, 0, none⟩ = some (.slice (some ⟨g, 0, none⟩) n cap) ∧ w'.cell? ⟨g, k * 4 + 1, none⟩ = some x.2.2) (by kernel_rfl) ?_
    (apply reg_take 0 rfl rfl (by decide +kernel) rfl); (rintro w' ⟨h1, h2⟩; go_simp; rfl); exact hS0; simp only [List.setIfInBounds_toArray, List.set_cons_succ, List.set_cons_zero]
    (apply reg_take 1 rfl rfl (by decide +kernel) rfl); (rintro w' ⟨h1, h2⟩; go_simp; rfl); exact hS0; simp only [List.setIfInBounds_toArray, List.set_cons_succ, List.set_cons_zero]
    (apply reg_take 2 rfl rfl (by decide +kernel) rfl); (rintro w' ⟨h1, h2⟩; go_simp; rfl); exact hS0; simp only [List.setIfInBounds_toArray, List.set_cons_succ, List.set_cons_zero]
    (apply reg_take 3 rfl rfl (by decide +kernel) rfl); (rintro w' ⟨h1, h2⟩; go_simp; rfl); exact hS0; simp only [List.setIfInBounds_toArray, List.set_cons_succ, List.set_cons_zero]
    (apply reg_take 4 rfl rfl (by decide +kernel) rfl); (rintro w' ⟨h1, h2⟩; go_simp; rfl); exact hS0; simp only [List.setIfInBounds_toArray, List.set_cons_succ, List.set_cons_zero]
    (apply reg_take 5 rfl rfl (by decide +kernel) rfl); (rintro w' ⟨h1, h2⟩; go_simp; rfl); exact hS0; simp only [List.setIfInBounds_toArray, List.set_cons_succ, List.set_cons_zero]
    (apply reg_take 6 rfl rfl (by decide +kernel) rfl); (rintro w' ⟨h1, h2⟩; go_simp; rfl); exact hS0; simp only [List.setIfInBounds_toArray, List.set_cons_succ, List.set_cons_zero]
    (apply reg_take 7 rfl rfl (by decide +kernel) rfl); (rintro w' ⟨h1, h2⟩; go_simp; rfl); exact hS0; simp only [List.setIfInBounds_toArray, List.set_cons_succ, List.set_cons_zero]
    (apply reg_take 8 rfl rfl (by decide +kernel) rfl); (rintro w' ⟨h1, h2⟩; go_simp; rfl); exact hS0; simp only [List.setIfInBounds_toArray, List.set_cons_succ, List.set_cons_zero]
    (apply reg_take 9 rfl rfl (by decide +kernel) rfl); (rintro w' ⟨h1, h2⟩; go_simp; rfl); exact hS0; simp only [List.setIfInBounds_toArray, List.set_cons_succ, List.set_cons_zero]
    (apply reg_take 10 rfl rfl (by decide +kernel) rfl); (rintro w' ⟨h1, h2⟩; go_simp; rfl); exact hS0; simp only [List.setIfInBounds_toArray, List.set_cons_succ, List.set_cons_zero]
    (apply reg_take 11 rfl rfl (by decide +kernel) rfl); (rintro w' ⟨h1, h2⟩; go_simp; rfl); exact hS0; simp only [List.setIfInBounds_toArray, List.set_cons_succ, List.set_cons_zero]
    (apply reg_take 12 rfl rfl (by decide +kernel) rfl); (rintro w' ⟨h1, h2⟩; go_simp; rfl); exact hS0; simp only [List.setIfInBounds_toArray, List.set_cons_succ, List.set_cons_zero]
    (apply reg_take 13 rfl rfl (by decide +kernel) rfl); (rintro w' ⟨h1, h2⟩; go_simp; rfl); exact hS0; simp only [List.setIfInBounds_toArray, List.set_cons_succ, List.set_cons_zero]
    refine reg_call 14 rfl rfl (by decide +kernel) rfl (f := 55) (args := #[x.2.2, .int .i64 mi]) (R := fun v w' => Hid (Same W2.drew w' ∧ Sat w' (rowB TU8 v (DiskM.flip s m) * refO p g n cap (L.set k (durd x.1 (DiskM.flip x.1.dur m), Value.slice a1 (DiskM.flip x.1.dur m).length cp1, x.2.2)) F))) (by kernel_rfl) (HT2.out.mono fun e w' h => by obtain ⟨v, rfl, h2⟩ := h; exact ⟨_, rfl, h2⟩) ?_
    rintro v3 w3 h3
    have ho3 : Sat w3 (refO p g n cap (L.set k (durd x.1 (DiskM.flip x.1.dur m), Value.slice a1 (DiskM.flip x.1.dur m).length cp1, x.2.2)) (rowB TU8 v3 (DiskM.flip s m) * F)) := h3.out.2.perm (by unfold refO; ac_rfl)
    obtain ⟨a3, cp3, rfl, -⟩ := bytes_cells h3.out.2
    obtain ⟨c3, -, e13, -, -, ef3⟩ := refO_cells ho3 HX2.out
    have e13' : w3.cell? ⟨g, k * 4 + 1, none⟩ = some x.2.2 := e13
    have hS3 : w3.cell? ⟨p, 0, none⟩ = some (.slice (some ⟨g, 0, none⟩) n cap) ∧ w3.cell? ⟨g, k * 4 + 1, none⟩ = some x.2.2 := ⟨c3, e13'⟩
    refine ⟨hS3, ?_⟩
    simp only [List.setIfInBounds_toArray, List.set_cons_succ, List.set_cons_zero]
    (apply reg_take 15 rfl rfl (by decide +kernel) rfl); (rintro w' ⟨h1, h2⟩; go_simp; rfl); exact hS3; simp only [List.setIfInBounds_toArray, List.set_cons_succ, List.set_cons_zero]
    (apply reg_take 16 rfl rfl (by decide +kernel) rfl); (rintro w' ⟨h1, h2⟩; go_simp; rfl); exact hS3; simp only [List.setIfInBounds_toArray, List.set_cons_succ, List.set_cons_zero]
    obtain ⟨ip, hip, hip2⟩ := Option.map_eq_some_iff.1 (show (Try.prog.info? 56).map (·.size) = some 1 by kernel_rfl)
    refine reg_do_last 17 (w3.setCell ⟨g, k * 4 + 1, none⟩ (.slice a3 (DiskM.flip s m).length cp3)) rfl rfl (by decide +kernel) rfl (exec_store_cell rfl rfl rfl hip hip2 rfl e13' (ef3 (k * 4 + 1))) ?_
    have hst := refO_store ho3 HX2.out (cacd (durd x.1 (DiskM.flip x.1.dur m)) (DiskM.flip s m), .slice a1 (DiskM.flip x.1.dur m).length cp1, .slice a3 (DiskM.flip s m).length cp3) 1 (.slice a3 (DiskM.flip s m).length cp3) (by omega) rfl (secB_cac _ _ _ _)
    rw [List.set_set] at hst
    have H4 := Lib.hid (And.intro ((H2.out.1.drew.trans h3.out.1).setCell ⟨g, k * 4 + 1, none⟩ (.slice a3 (DiskM.flip s m).length cp3)) (refO_refD HW.out (HP.out _) (refO_drop hst)))
    clear hS0 hS3 c0 e1' c3 e13 e13' ef3 ho3 hst hip hip2 ip
    go_wp2
    go_ret
    exact ⟨rfl, H4.out⟩
end Go.Proofs.Ytdeblpnkpefbcaa
