import Derived.Test.YteikbikopgabjaaGreatDoorU08
import Derived.Test.YteikbikopgabjaaGreatDoorU28
/- Part 36 of a proof; the last part says what is proved. -/
namespace Go.GF
open Go Go.RowKit
theorem rowE_all {f k : Int} {L : List (List Int)} (h : ∀ (i : Nat) (r : List Int), L[i]? = some r → rowE f k r = true) : L.all (rowE f k) = true := by
  rw [List.all_eq_true]
  intro r hr
  obtain ⟨i, hi⟩ := List.mem_iff_getElem?.1 hr
  exact h i r hi
theorem rowE_not {f k : Int} {L : List (List Int)} {i : Nat} {r : List Int} (h : L[i]? = some r) (h0 : rowE f k r = false) : L.all (rowE f k) = false := by
  rw [List.all_eq_false]
  exact ⟨r, List.mem_iff_getElem?.2 ⟨i, h⟩, by simp [h0]⟩
theorem rowsI_hd {w : World} {ao : Option Addr} {n cp : Nat} {L : List (List Int)} {r : List Int} {i : Nat} (h : RowsI w (.slice ao n cp) L) (hr : L[i]? = some r) :
    ∃ (b off : Nat) (ao2 : Option Addr) (cp2 : Nat), ao = some ⟨b, off, none⟩ ∧ w.cell? ⟨b, off + i, none⟩ = some (.slice ao2 r.length cp2) ∧ RowI w (.slice ao2 r.length cp2) (intsV r) := by
  obtain ⟨rvs, ⟨ao', cp', h1, h2, h3, h4⟩, hl, hall⟩ := h
  cases h1
  have hi := (List.getElem?_eq_some_iff.1 hr).1
  obtain ⟨b, off, e, -, hc⟩ := h4 (by omega)
  obtain ⟨y, hy⟩ : ∃ y, rvs[i]? = some y := ⟨_, List.getElem?_eq_getElem (by omega)⟩
  obtain ⟨r', hr', hy2⟩ := hall i y hy
  rw [hr] at hr'
  cases hr'
  obtain ⟨ao2, cp2, e2, -⟩ := id hy2
  subst e2
  rw [intsV_len] at hy hy2
  exact ⟨b, off, ao2, cp2, e, hc i _ hy, hy2⟩
theorem rowsI_keep {w : World} {ao : Option Addr} {n cp : Nat} {L : List (List Int)} {r : List Int} {i j : Nat} {x : Int} (h : RowsI w (.slice ao n cp) L) (hr : L[i]? = some r) (hx : r[j]? = some x) :
    ∃ b off b2 off2 cp2 : Nat, ao = some ⟨b, off, none⟩ ∧ ∀ W, Below w.heap.size w W → W.cell? ⟨b, off + i, none⟩ = some (.slice (some ⟨b2, off2, none⟩) r.length cp2) ∧ W.cell? ⟨b2, off2 + j, none⟩ = some (.int .i64 x) := by
  obtain ⟨b, off, b2, off2, cp2, e, c1, c2⟩ := Sl.rowsI_at h hr hx
  refine ⟨b, off, b2, off2, cp2, e, fun W hb => ?_⟩
  have l1 := World.block_lt_of_cell? _ _ c1
  have l2 := World.block_lt_of_cell? _ _ c2
  exact ⟨(hb.cell (p := ⟨b, off + i, none⟩) l1).trans c1, (hb.cell (p := ⟨b2, off2 + j, none⟩) l2).trans c2⟩
theorem isF_allB {m : Nat} (hm : isF m) (x : Int) : allB (m : Int) [x] = elB (m : Int) x := by
  unfold allB
  rcases hm with rfl | rfl <;> simp [modI]
theorem isF_allB0 {m : Nat} (hm : isF m) : allB (m : Int) [0] = true := by
  rcases hm with rfl | rfl <;> decide
theorem take_all {α : Type} (p : α → Bool) {l : List α} {j : Nat} {x : α} (h : l[j]? = some x) : (l.take (j + 1)).all p = ((l.take j).all p && p x) := by
  rw [List.take_add_one, h, List.all_append]; simp
end Go.GF
namespace Go.Proofs.YteikbikopgabjaaGreatDoor
open Go.RowKit Go.GF Go.Sl
structure V8 (w : World) (g : Nat) (nm : ByteArray) (f k : Int) (pv : Value) (dom : Int) (wr : World) : Prop where
  bx : Box wr g (codeV nm f k pv dom)
  bl : Below g w wr
theorem V8.below {w : World} {g : Nat} {nm : ByteArray} {f k : Int} {pv : Value} {dom : Int} {wr w' : World} (h : V8 w g nm f k pv dom wr) (hb : Below wr.heap.size wr w') : V8 w g nm f k pv dom w' :=
  ⟨h.bx.below hb, h.bl.trans (hb.mono (by
    obtain ⟨t, h1⟩ := h.bx
    exact Nat.le_of_lt (Array.getElem?_eq_some_iff.1 h1).1))⟩
theorem V8.drew {w : World} {g : Nat} {nm : ByteArray} {f k : Int} {pv : Value} {dom : Int} {wr : World} (h : V8 w g nm f k pv dom wr) : V8 w g nm f k pv dom wr.drew := h.below (Below.refl _ _).drew
structure V8O (w : World) (g : Nat) (nm : ByteArray) (f k : Int) (pv : Value) (dom : Int) (L : List (List Int)) (iv : Value) (wr : World) : Prop where
  st : ∃ i : Nat, i ≤ L.length ∧ iv = .int .i64 (i : Int) ∧ (∀ a r, a < i → L[a]? = some r → rowE f k r = true) ∧ V8 w g nm f k pv dom wr
structure V8I (w : World) (g : Nat) (nm : ByteArray) (f k : Int) (pv : Value) (dom : Int) (r : List Int) (sv jv : Value) (wr : World) : Prop where
  st : ∃ j : Nat, j ≤ r.length ∧ jv = .int .i64 (j : Int) ∧ (r.take j).all (fun x => allB f [x]) = true ∧ sv = .bool (!(r.take j).all fun x => x == 0) ∧ V8 w g nm f k pv dom wr
set_option maxRecDepth 20000 in
set_option maxHeartbeats 4000000 in
theorem r8valid_any (nm : ByteArray) (f k : Int) (pv : Value) (dom : Int) (L : List (List Int)) (w : World) (hp : RowsI w pv L) (hk : k ≤ 1000) (hlm : L.length ≤ 100000) :
    Calls Tryz.prog 69 #[.agg (codeV nm f k pv dom)] w fun e w' => e = .returned (.bool (validE f k L)) ∧ Below w.heap.size w w' := by
  have H0 := Lib.hid (fun t => (show V8 w w.heap.size nm f k pv dom (w.alloc (.cells (codeV nm f k pv dom) t)) from ⟨box_start w _ t, al_below w _⟩))
  by_cases hf : f = 8 ∨ f = 16
  · obtain ⟨m, hm, rfl⟩ : ∃ m : Nat, isF m ∧ f = (m : Int) := by
      rcases hf with rfl | rfl
      · exact ⟨8, .inl rfl, rfl⟩
      · exact ⟨16, .inr rfl, rfl⟩
    clear hf
    have hA : validE (m : Int) k L = (decide (1 ≤ k) && (decide (L.length ≤ 32) && (decide (k ≤ 32 - (L.length : Int)) && L.all (rowE m k)))) := by unfold validE; rw [isF_allB0 hm, Bool.true_and]
    have hfl : (((m : Int) != 8) = false) ∨ (((m : Int) != 8) = true ∧ ((m : Int) != 16) = false) := by
      rcases hm with rfl | rfl
      · exact .inl rfl
      · exact .inr ⟨rfl, rfl⟩
    have HVL := Lib.hid (fun a W => rvalid_any m hm a W)
    have HAB := Lib.hid (fun x => isF_allB hm x)
    clear hm
    rw [hA]
    clear hA
    by_cases hk1 : 1 ≤ k
    · have hk1d : decide (k < 1) = false := decide_eq_false (by omega)
      have hwk : IntKind.i64.wrap (k + (L.length : Int)) = k + (L.length : Int) := IntWalk.i64_in _ (by omega)
      rw [decide_eq_true hk1, Bool.true_and]
      by_cases hks : k + (L.length : Int) ≤ 32
      · have hksd : decide (32 < k + (L.length : Int)) = false := decide_eq_false (by omega)
        rw [decide_eq_true (show L.length ≤ 32 by omega), Bool.true_and, decide_eq_true (show k ≤ 32 - (L.length : Int) by omega), Bool.true_and]
        obtain ⟨K, rfl⟩ : ∃ K : Nat, k = (K : Int) := ⟨k.toNat, by omega⟩
        have hK32 : K + L.length ≤ 32 := by omega
        have HRW := Lib.hid (fun W (hb : Below w.heap.size w W) => hp.below hb)
        obtain ⟨ap, cp, rfl⟩ := RowsI.shape hp
        have HRK := Lib.hid (fun i j r x hr hx => rowsI_keep (i := i) (j := j) (r := r) (x := x) hp hr hx)
        clear hp hk hks hlm hk1
        unfold codeV at *
        rcases hfl with h8 | ⟨h8, h16⟩
        all_goals (
          go_enter Tryz.func69, Tryz.ntmps69
          go_wp2
          generalize hgs : w.heap.size = gs at *
          go_loopw [3] (fun iv wr => V8O w gs nm m K (.slice ap L.length cp) dom L iv wr) (fun iv _ => L.length - (intOf iv).toNat)
          case atStart => exact ⟨⟨0, Nat.zero_le _, rfl, fun a r h => by omega, H0.out _⟩⟩
          case round =>
            clear H0
            obtain ⟨i, hi, rfl, hz, hV⟩ := hrel.st
            clear hrel
            have HZ := Lib.hid (And.intro hz hV)
            obtain ⟨c0, c1, c2, c3, -⟩ := Box.code (nm := nm) (dom := dom) hV.bx
            clear hz
            by_cases hiL : i < L.length
            · have hid : decide ((i : Int) < (L.length : Int)) = true := decide_eq_true (by omega)
              have hwi : IntKind.i64.wrap ((i : Int) + 1) = (i : Int) + 1 := IntWalk.i64_in _ (by omega)
              obtain ⟨r, hr⟩ : ∃ r, L[i]? = some r := ⟨_, List.getElem?_eq_getElem hiL⟩
              have HROW := Lib.hid (HRW.out wr hV.bl)
              obtain ⟨b, off, ao2, cp2, rfl, c4, -⟩ := rowsI_hd HROW.out hr
              have HNO := Lib.hid (fun h => rowE_not (f := m) (k := K) hr h)
              clear hV
              by_cases hrk : r.length = K
              · have hrd : ((r.length : Int) != (K : Int)) = false := by simp [hrk]
                have HR := Lib.hid hr
                have HI := Lib.hid (show V8 w gs nm m K (.slice (some ⟨b, off, none⟩) L.length cp) dom wr.drew from HZ.out.2.drew)
                clear hr
                go_upto_region 6 with (fail)
                go_region
                go_wp2
                clear c0 c1 c2 c3 c4
                obtain ⟨wo, hwo⟩ : ∃ wo : World, wo = wr.drew := ⟨_, rfl⟩
                rw [← hwo] at HI ⊢
                clear hwo
                go_loopw [4, 5] (fun sv jv wr => V8I w gs nm m K (.slice (some ⟨b, off, none⟩) L.length cp) dom r sv jv wr) (fun _ jv _ => K - (intOf jv).toNat)
                case atStart => exact ⟨⟨0, Nat.zero_le _, rfl, rfl, rfl, HI.out⟩⟩
                case round =>
                  clear HI
                  obtain ⟨j, hj, rfl, hall, rfl, hV⟩ := hrel.st
                  clear hrel
                  have HW := Lib.hid (And.intro hall hV)
                  obtain ⟨c0, c1, c2, c3, -⟩ := Box.code (nm := nm) (dom := dom) hV.bx
                  clear hall hV
                  by_cases hjK : j < K
                  · have hjd : decide ((j : Int) < (K : Int)) = true := decide_eq_true (by omega)
                    have hwj : IntKind.i64.wrap ((j : Int) + 1) = (j : Int) + 1 := IntWalk.i64_in _ (by omega)
                    obtain ⟨x, hx⟩ : ∃ x, r[j]? = some x := ⟨_, List.getElem?_eq_getElem (by omega)⟩
                    obtain ⟨b', off', b2, off2, cp3, e1, hcc⟩ := HRK.out i j r x HR.out hx
                    have HCC := Lib.hid hcc
                    obtain ⟨c4, c5⟩ := hcc _ HW.out.2.bl
                    clear hcc
                    cases e1
                    have HX := Lib.hid (And.intro (take_all (fun x => allB (m : Int) [x]) hx) (take_all (fun x => x == 0) hx))
                    have HMM := Lib.hid (show rowE m K r = (decide ((r.length : Int) = (K : Int)) && (r.all (fun x => allB m [x]) && !(r.all fun x => x == 0))) from rfl)
                    have HRX := Lib.hid (show elB (m : Int) x = false → r.all (fun x => allB (m : Int) [x]) = false from fun h => by
                      rw [List.all_eq_false]
                      exact ⟨x, List.mem_iff_getElem?.2 ⟨j, hx⟩, by rw [HAB.out, h]; decide⟩)
                    clear hx
                    go_upto_region 12 with (fail)
                    refine regU_begin (fun w' => V8 w gs nm m K (.slice (some ⟨b, off, none⟩) L.length cp) dom w') (by kernel_rfl) HW.out.2.drew ?_
                    (apply regU_take 0 rfl rfl (by decide +kernel) rfl); (intro w' hw'; go_simp; rfl); simp only [List.setIfInBounds_toArray, List.set_cons_succ, List.set_cons_zero]
                    refine regU_take 1 (v := .int .i64 (m : Int)) rfl rfl (by decide +kernel) rfl (fun w' h => exec_load_cell rfl rfl Tryz.underlying3 rfl (Box.code (nm := nm) (dom := dom) h.bx).2.1) ?_; simp only [List.setIfInBounds_toArray, List.set_cons_succ, List.set_cons_zero]
                    (apply regU_take 2 rfl rfl (by decide +kernel) rfl); (intro w' hw'; go_simp; rfl); simp only [List.setIfInBounds_toArray, List.set_cons_succ, List.set_cons_zero]
                    refine regU_take 3 (v := .slice (some ⟨b, off, none⟩) L.length cp) rfl rfl (by decide +kernel) rfl (fun w' h => exec_load_cell rfl rfl Tryz.underlying44 rfl (Box.code (nm := nm) (dom := dom) h.bx).2.2.2.1) ?_; simp only [List.setIfInBounds_toArray, List.set_cons_succ, List.set_cons_zero]
                    (apply regU_take 4 rfl rfl (by decide +kernel) rfl); (intro w' hw'; go_simp; rfl); simp only [List.setIfInBounds_toArray, List.set_cons_succ, List.set_cons_zero]
                    refine regU_take 5 (v := .pointer (some ⟨b, off + i, none⟩)) rfl rfl (by decide +kernel) rfl (fun w' h => exec_ixR rfl rfl rfl hiL) ?_; simp only [List.setIfInBounds_toArray, List.set_cons_succ, List.set_cons_zero]
                    refine regU_take 6 (v := .slice (some ⟨b2, off2, none⟩) r.length cp3) rfl rfl (by decide +kernel) rfl (fun w' h => exec_load_cell rfl rfl Tryz.underlying36 rfl (HCC.out w' h.bl).1) ?_; simp only [List.setIfInBounds_toArray, List.set_cons_succ, List.set_cons_zero]
                    (apply regU_take 7 rfl rfl (by decide +kernel) rfl); (intro w' hw'; go_simp; rfl); simp only [List.setIfInBounds_toArray, List.set_cons_succ, List.set_cons_zero]
                    refine regU_take 8 (v := .pointer (some ⟨b2, off2 + j, none⟩)) rfl rfl (by decide +kernel) rfl (fun w' h => exec_ixI rfl rfl rfl (by omega)) ?_; simp only [List.setIfInBounds_toArray, List.set_cons_succ, List.set_cons_zero]
                    refine regU_take 9 (v := .int .i64 x) rfl rfl (by decide +kernel) rfl (fun w' h => exec_load_cell rfl rfl Tryz.underlying3 rfl (HCC.out w' h.bl).2) ?_; simp only [List.setIfInBounds_toArray, List.set_cons_succ, List.set_cons_zero]
                    refine regU_call 10 (f := 97) (args := #[.int .i64 (m : Int), .int .i64 x]) (v := .bool (elB (m : Int) x)) rfl rfl (by decide +kernel) rfl (fun w' => by kernel_rfl) (fun w' h => (HVL.out x w').mono fun e w'' h2 => ⟨h2.1, h.below h2.2⟩) ?_
                    simp only [List.setIfInBounds_toArray, List.set_cons_succ, List.set_cons_zero]
                    (apply regU_take 11 rfl rfl (by decide +kernel) rfl); (intro w' hw'; go_simp; rfl); simp only [List.setIfInBounds_toArray, List.set_cons_succ, List.set_cons_zero]
                    refine regU_done (by decide +kernel) ?_
                    intro w3 h3
                    have HV3 := Lib.hid h3
                    obtain ⟨d0, d1, d2, d3, -⟩ := Box.code (nm := nm) (dom := dom) h3.bx
                    obtain ⟨d4, d5⟩ := HCC.out w3 h3.bl
                    clear h3 c0 c1 c2 c3 c4 c5
                    cases he : elB (m : Int) x with
                    | false =>
                      have HN := Lib.hid (HNO.out (by rw [HMM.out, HRX.out he, Bool.false_and, Bool.and_false]))
                      clear he
                      go_wp2
                      go_ret
                      rw [HN.out]
                      exact ⟨rfl, by first | exact HV3.out.bl | (rw [hgs]; exact HV3.out.bl)⟩
                    | true =>
                      have HA1 := Lib.hid (show (r.take (j + 1)).all (fun x => allB (m : Int) [x]) = true by rw [HX.out.1, HW.out.1, HAB.out, he]; rfl)
                      have HA2 := HX.out.2
                      clear he
                      cases hs : (r.take j).all (fun x => x == 0) with
                      | false =>
                        rw [hs, Bool.false_and] at HA2
                        have HA3 := Lib.hid HA2
                        clear HA2 hs
                        go_wp2
                        go_roundw
                        case rel => exact ⟨⟨j + 1, by omega, rfl, HA1.out, by rw [HA3.out]; rfl, HV3.out⟩⟩
                        case measure => simp only [intOf]; omega
                      | true =>
                        rw [hs, Bool.true_and] at HA2
                        have HA3 := Lib.hid HA2
                        clear HA2 hs
                        go_wp2
                        go_roundw
                        case rel => exact ⟨⟨j + 1, by omega, rfl, HA1.out, by rw [HA3.out]; rfl, HV3.out⟩⟩
                        case measure => simp only [intOf]; omega
                  · have hje : j = K := by omega
                    have hjd : decide ((j : Int) < (K : Int)) = false := decide_eq_false (by omega)
                    have hte : r.take j = r := List.take_of_length_le (by omega)
                    have HE := Lib.hid (show rowE m K r = !(r.all fun x => x == 0) from by
                      have h := HW.out.1
                      rw [hte] at h
                      unfold rowE
                      rw [decide_eq_true (by omega), h, Bool.true_and, Bool.true_and])
                    rw [hte]
                    clear hte hje
                    cases hq : (r.all fun x => x == 0) with
                    | true =>
                      rw [hq] at HE
                      have HN := Lib.hid (HNO.out HE.out)
                      clear hq
                      go_wp2
                      go_ret
                      rw [HN.out]
                      exact ⟨rfl, by first | exact HW.out.2.bl | (rw [hgs]; exact HW.out.2.bl)⟩
                    | false =>
                      rw [hq] at HE
                      have HN := Lib.hid (show ∀ a r', a < i + 1 → L[a]? = some r' → rowE (m : Int) K r' = true from fun a r' h1 h2 => by
                        by_cases e : a = i
                        · subst e
                          rw [HR.out] at h2
                          cases h2
                          exact HE.out
                        · exact HZ.out.1 a r' (by omega) h2)
                      clear hq
                      go_wp2
                      go_roundw
                      case rel => exact ⟨⟨i + 1, hiL, rfl, HN.out, HW.out.2⟩⟩
                      case measure => simp only [intOf]; omega
              · have hrd : ((r.length : Int) != (K : Int)) = true := by simp; omega
                have HN := Lib.hid (HNO.out (by unfold rowE; rw [decide_eq_false (by omega), Bool.false_and]))
                clear hrk hr
                go_upto_region 6 with (fail)
                go_region
                go_wp2
                go_ret
                rw [HN.out]
                exact ⟨rfl, by first | exact HZ.out.2.drew.bl | (rw [hgs]; exact HZ.out.2.drew.bl)⟩
            · have hie : i = L.length := by omega
              have hid : decide ((i : Int) < (L.length : Int)) = false := decide_eq_false (by omega)
              have HN := Lib.hid (rowE_all (f := m) (k := K) (L := L) fun a r h => HZ.out.1 a r (by have := (List.getElem?_eq_some_iff.1 h).1; omega) h)
              clear hie
              go_wp2
              go_ret
              rw [HN.out]
              exact ⟨rfl, by first | exact HZ.out.2.bl | (rw [hgs]; exact HZ.out.2.bl)⟩)
      · have hksd : decide (32 < k + (L.length : Int)) = true := decide_eq_true (by omega)
        have HN := Lib.hid (show (decide (L.length ≤ 32) && (decide (k ≤ 32 - (L.length : Int)) && L.all (rowE m k))) = false by
          rw [decide_eq_false (show ¬ k ≤ 32 - (L.length : Int) by omega), Bool.false_and, Bool.and_false])
        obtain ⟨ap, cp, rfl⟩ := RowsI.shape hp
        clear hp hk hks hlm hk1
        unfold codeV at *
        rcases hfl with h8 | ⟨h8, h16⟩
        all_goals (
          go_enter Tryz.func69, Tryz.ntmps69
          go_wp2
          go_ret
          rw [HN.out]
          exact ⟨rfl, (H0.out _).bl⟩)
    · have hk1d : decide (k < 1) = true := decide_eq_true (by omega)
      rw [decide_eq_false hk1, Bool.false_and]
      obtain ⟨ap, cp, rfl⟩ := RowsI.shape hp
      clear hp hk hlm hk1
      unfold codeV at *
      rcases hfl with h8 | ⟨h8, h16⟩
      all_goals (
        go_enter Tryz.func69, Tryz.ntmps69
        go_wp2
        go_ret
        exact ⟨rfl, (H0.out _).bl⟩)
  · have h8 : (f != 8) = true := by simp; omega
    have h16 : (f != 16) = true := by simp; omega
    have HV := Lib.hid (show validE f k L = false by
      unfold validE allB modI
      rw [if_neg (by omega), if_neg (by omega)]
      rfl)
    obtain ⟨ap, cp, rfl⟩ := RowsI.shape hp
    clear hp hf
    unfold codeV at *
    go_enter Tryz.func69, Tryz.ntmps69
    go_wp2
    go_ret
    rw [HV.out]
    exact ⟨rfl, (H0.out _).bl⟩
end Go.Proofs.YteikbikopgabjaaGreatDoor
namespace Go.Sl
open Go Go.RowKit
end Go.Sl
namespace Go.Proofs.YteikbikopgabjaaGreatDoor
open Go.RowKit Go.GF Go.Sl
set_option maxRecDepth 20000 in
theorem r8width_any (cv : Array Value) (c : CodeM) (w : World) (hc : CodeAt w cv c) :
    Calls Tryz.prog 44 #[.agg cv] w fun e w' => e = .returned (.int .i64 ((c.n : Nat) : Int)) ∧ Below w.heap.size w w' := by
  obtain ⟨⟨nm, pv, dom, rfl, hp⟩, hok, h32, hval⟩ := hc
  have HV := Lib.hid (fun t => r8valid_any nm c.m c.k pv dom (c.par.map natsI) (w.alloc (.cells (codeV nm c.m c.k pv dom) t)) (hp.below (al_below w _)) (by unfold CodeM.n at h32; omega) (by unfold CodeM.n at h32; rw [List.length_map]; omega))
  rw [hval] at HV
  have HB := Lib.hid (fun t w1 h => code_box w w1 (codeV nm c.m c.k pv dom) t h)
  obtain ⟨ao, cp, rfl⟩ := RowsI.shape hp
  rw [List.length_map] at *
  unfold CodeM.n at *
  have hw : IntKind.i64.wrap ((c.k : Int) + (c.par.length : Int)) = ((c.k + c.par.length : Nat) : Int) := by
    rw [show (c.k : Int) + (c.par.length : Int) = ((c.k + c.par.length : Nat) : Int) by simp]; exact wrap_nat (by omega)
  generalize c.k + c.par.length = N at *
  clear hp hval h32 hok
  unfold codeV at *
  go_enter Tryz.func44, Tryz.ntmps44
  go_wp2_with (go_at_call 69; refine (HV.out _).mono ?_; rintro e w1 ⟨rfl, h1⟩; obtain ⟨hg, hb⟩ := HB.out _ w1 h1; obtain ⟨c0, c1, c2, c3, -⟩ := Box.code (nm := nm) (dom := dom) hg)
  go_ret
  exact ⟨rfl, hb⟩
set_option maxRecDepth 20000 in
theorem r8width_no (nm : ByteArray) (f k : Int) (pv : Value) (dom : Int) (L : List (List Int)) (w : World) (hp : RowsI w pv L) (hk : k ≤ 1000) (hlm : L.length ≤ 100000) (hval : validE f k L = false) :
    Calls Tryz.prog 44 #[.agg (codeV nm f k pv dom)] w fun e w' => e = .returned (.int .i64 0) ∧ Below w.heap.size w w' := by
  have HV := Lib.hid (fun t => r8valid_any nm f k pv dom L (w.alloc (.cells (codeV nm f k pv dom) t)) (hp.below (al_below w _)) hk hlm)
  rw [hval] at HV
  have HB := Lib.hid (fun t w1 h => code_box w w1 (codeV nm f k pv dom) t h)
  clear hp hval hk hlm
  unfold codeV at *
  go_enter Tryz.func44, Tryz.ntmps44
  go_wp2_with (go_at_call 69; refine (HV.out _).mono ?_; rintro e w1 ⟨rfl, h1⟩; obtain ⟨hg, hb⟩ := HB.out _ w1 h1)
  go_ret
  exact ⟨rfl, hb⟩
structure RwS (w1 : World) (f : Nat → Nat) (K : Nat) (v jv : Value) (wr : World) : Prop where
  st : ∃ j : Nat, j ≤ K ∧ jv = .int .i64 (j : Int) ∧ Same w1 wr ∧ Sat wr (ownAt TI 1 v (lineI f j).length (intsV (lineI f j)) * old w1)
set_option maxRecDepth 20000 in
set_option maxHeartbeats 2000000 in
theorem r8row_any (cv : Array Value) (c : CodeM) (u : Nat) (hu : u < c.n) (w : World) (hc : CodeAt w cv c) :
    Calls Tryz.prog 126 #[.agg cv, .int .i64 (u : Int)] w fun e w' => ∃ v, e = .returned v ∧ Same w w' ∧ Sat w' (ownAt TI 1 v c.k (intsV (lineI (c.gen u) c.k)) * old w) := by
  obtain ⟨⟨nm, pv, dom, rfl, hp⟩, hok, h32, hval⟩ := hc
  obtain ⟨ap, cp, rfl⟩ := RowsI.shape hp
  have HRK := Lib.hid (fun i j r x hr hx => rowsI_keep (i := i) (j := j) (r := r) (x := x) hp hr hx)
  have HG := Lib.hid (show ∀ j, j < c.k → (u < c.k → c.gen u j = if u = j then 1 else 0) ∧ (¬ u < c.k → ∃ r, (c.par.map natsI)[u - c.k]? = some r ∧ r[j]? = some ((c.gen u j : Nat) : Int)) from fun j hj => by
    refine ⟨fun h => by unfold CodeM.gen; rw [if_pos h], fun h => ?_⟩
    unfold CodeM.n at hu
    obtain ⟨r, hr⟩ : ∃ r, c.par[u - c.k]? = some r := ⟨_, List.getElem?_eq_getElem (by omega)⟩
    have hl := (hok.row r (List.mem_of_getElem? hr)).1
    refine ⟨natsI r, by rw [List.getElem?_map, hr]; rfl, ?_⟩
    unfold CodeM.gen natsI
    rw [if_neg h, hr, List.getElem?_map, Option.getD_some, List.getElem?_eq_getElem (by omega)]
    rfl)
  have hk32 : c.k ≤ 32 ∧ u ≤ 32 := by unfold CodeM.n at *; omega
  have hpl : u < c.k ∨ u - c.k < (c.par.map natsI).length := by unfold CodeM.n at hu; rw [List.length_map]; omega
  have HBX := Lib.hid (fun t => box_start w (codeV nm c.m c.k (.slice ap (c.par.map natsI).length cp) dom) t)
  generalize (c.par.map natsI) = L at *
  have HK := Lib.hid hok.pos
  have HLL := Lib.hid (fun j => lineI_succ (c.gen u) j)
  have HLN := Lib.hid (fun j => lineI_len (c.gen u) j)
  obtain ⟨G, hGe⟩ : ∃ G, c.gen u = G := ⟨_, rfl⟩
  rw [hGe] at HG HLL HLN ⊢
  clear hGe hp hval h32 hok hu
  generalize c.k = K at *
  generalize c.m = m at *
  unfold codeV at *
  go_enter Tryz.func126, Tryz.ntmps126
  go_wp2
  have HB0 := Lib.hid (HBX.out 46)
  have HA2 := Lib.hid (show ∀ o, Same w (w.alloc o) ∧ Sat (w.alloc o) (old w) from fun o => ⟨(Same.refl w).alloc o, (Sat.old w).allocKeep o⟩)
  have HA3 := Lib.hid (HA2.out (.cells #[.string nm, .int .i64 (m : Int), .int .i64 (K : Int), .slice ap L.length cp, .int .i64 dom] 46))
  have HAL := Lib.hid (al_below w (.cells #[.string nm, .int .i64 (m : Int), .int .i64 (K : Int), .slice ap L.length cp, .int .i64 dom] 46))
  generalize hgs : w.heap.size = gs at *
  generalize hw1 : (w.alloc (.cells #[.string nm, .int .i64 (m : Int), .int .i64 (K : Int), .slice ap L.length cp, .int .i64 dom] 46)) = w1 at *
  clear HBX
  go_loopw [5, 6] (fun v jv wr => RwS w1 G K v jv wr) (fun _ jv _ => K - (intOf jv).toNat)
  case atStart => exact ⟨⟨0, Nat.zero_le _, rfl, Same.refl _, ownAt_nil.2 (Sat.old w1)⟩⟩
  case round =>
    obtain ⟨j, hj, rfl, hsm, hst⟩ := hrel.st
    clear hrel
    have HS := Lib.hid (And.intro hsm hst)
    have hb := hsm.below_of hst
    obtain ⟨c0, c1, c2, c3, -⟩ := Box.code (nm := nm) (dom := dom) (HB0.out.below hb)
    have HBL := Lib.hid (show Below gs w wr from HAL.out.trans (hb.mono (by rw [← hgs]; exact HAL.out.size)))
    clear hsm hst hb
    by_cases hjK : j < K
    · have hjd : decide ((j : Int) < (K : Int)) = true := decide_eq_true (by omega)
      have hwj : IntKind.i64.wrap ((j : Int) + 1) = (j : Int) + 1 := IntWalk.i64_in _ (by omega)
      by_cases huK : u < K
      · have hud : decide ((K : Int) ≤ (u : Int)) = false := decide_eq_false (by omega)
        have hg := (HG.out j hjK).1 huK
        by_cases huj : u = j
        · have hujd : ((u : Int) == (j : Int)) = true := by simp [huj]
          have HGJ := Lib.hid (show ((G j : Nat) : Int) = 1 by rw [hg, if_pos huj]; rfl)
          clear hg huj hpl
          go_wp2_with (at_builtin; refine wpList_apF rfl _ _ rfl rfl rfl HS.out.2 (by rw [HLN.out]; omega) ?_; intro v9 w9 h9 h10)
          go_roundw
          case rel => exact ⟨⟨j + 1, hjK, rfl, HS.out.1.trans h9, by rw [HLL.out, HGJ.out]; exact h10⟩⟩
          case measure => simp only [intOf]; omega
        · have hujd : ((u : Int) == (j : Int)) = false := by simp; omega
          have HGJ := Lib.hid (show ((G j : Nat) : Int) = 0 by rw [hg, if_neg huj]; rfl)
          clear hg huj hpl
          go_wp2_with (at_builtin; refine wpList_apF rfl _ _ rfl rfl rfl HS.out.2 (by rw [HLN.out]; omega) ?_; intro v9 w9 h9 h10)
          go_roundw
          case rel => exact ⟨⟨j + 1, hjK, rfl, HS.out.1.trans h9, by rw [HLL.out, HGJ.out]; exact h10⟩⟩
          case measure => simp only [intOf]; omega
      · have hud : decide ((K : Int) ≤ (u : Int)) = true := decide_eq_true (by omega)
        have hujd : ((u : Int) == (j : Int)) = false := by simp; omega
        obtain ⟨r, hr, hx⟩ := (HG.out j hjK).2 huK
        obtain ⟨b, off, b2, off2, cp2, rfl, hcc⟩ := HRK.out (u - K) j r _ hr hx
        obtain ⟨c4, c5⟩ := hcc wr HBL.out
        have hjr := (List.getElem?_eq_some_iff.1 hx).1
        have hwu : IntKind.i64.wrap ((u : Int) - (K : Int)) = ((u - K : Nat) : Int) := by rw [IntWalk.i64_in _ (by omega)]; omega
        have hpl2 : u - K < L.length := by omega
        have hKu : K ≤ u := by omega
        generalize u - K = q at *
        clear hr hx hcc hpl huK
        go_wp2_with (at_builtin; refine wpList_apF rfl _ _ rfl rfl rfl HS.out.2 (by rw [HLN.out]; omega) ?_; intro v9 w9 h9 h10)
        go_roundw
        case rel => exact ⟨⟨j + 1, hjK, rfl, HS.out.1.trans h9, by rw [HLL.out]; exact h10⟩⟩
        case measure => simp only [intOf]; omega
    · have hje : j = K := by omega
      have hjd : decide ((j : Int) < (K : Int)) = false := decide_eq_false (by omega)
      obtain rfl : K = j := hje.symm
      go_wp2
      go_ret
      have h2 := HS.out.2
      rw [HLN.out] at h2
      exact ⟨_, rfl, HA3.out.1.trans HS.out.1, h2.of_all HA3.out.2⟩
end Go.Proofs.YteikbikopgabjaaGreatDoor
