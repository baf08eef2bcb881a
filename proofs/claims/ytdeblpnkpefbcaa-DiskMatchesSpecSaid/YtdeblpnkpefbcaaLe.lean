/- solventlaw16.equal: two lists of strings. -/
import Derived.Test.YtdeblpnkpefbcaaLc
namespace Go.Proofs.Ytdeblpnkpefbcaa
open Go.RowKit Go.Sl Go.ChangeMaps

def StrsAt (w : World) (v : Value) (l : List ByteArray) : Prop := ∃ ao cap, v = .slice ao l.length cap ∧ (l ≠ [] → ∃ b off, ao = some ⟨b, off, none⟩ ∧ ∀ j x, l[j]? = some x → w.cell? ⟨b, off + j * 1, none⟩ = some (.string x))
theorem ownAt_strs {w : World} {v : Value} {l : List ByteArray} {F : HProp} {n : Nat} (h : Sat w (ownAt TStr 1 v n (l.map Value.string) * F)) : StrsAt w v l := by
  have hl := ownAt_len h
  simp at hl
  subst hl
  obtain ⟨ao, cap, rfl⟩ := ownAt_slice h
  refine ⟨ao, cap, rfl, fun hne => ?_⟩
  obtain ⟨g, cap', he, hc⟩ := ownAt_cells h (List.length_pos_iff.2 hne)
  injection he with h1 h2 h3
  exact ⟨g, 0, h1, fun j x hj => by rw [Nat.zero_add, Nat.mul_one]; exact hc j _ (by rw [List.getElem?_map, hj]; rfl)⟩

theorem bytes_eq {x y : ByteArray} (h : x.toList = y.toList) : x = y := by
  rw [Lib.toList_data, Lib.toList_data] at h
  cases x; cases y; congr 1; exact Array.toList_inj.1 h
theorem run_neq_str {P : Program} {t : TypeId} (w : World) {x y : ByteArray} (b : Bool) (hb : b = !decide (x = y)) : (binOp .neq t (.string x) (.string y)).run P w = .ok (.bool b) w := by
  have e : (x.toList == y.toList) = decide (x = y) := by
    by_cases h : x = y
    · subst h; simp
    · rw [decide_eq_false h]; simp; exact fun h' => h (bytes_eq h')
  simp [binOp, Op.stringOp, e, hb]

structure EqualSt (w : World) (la lb : List ByteArray) (i : Value) (wr : World) : Prop where
  st : ∃ k : Nat, k ≤ la.length ∧ i = .int .i64 k ∧ la.take k = lb.take k ∧ Below w.heap.size w wr

set_option maxHeartbeats 400000 in
theorem equal_any (va vb : Value) (la lb : List ByteArray) (w : World) (ha : StrsAt w va la) (hb : StrsAt w vb lb) (hm : la.length ≤ 4611686018427387904) :
    Calls Try.prog 28 #[va, vb] w fun e w' => e = .returned (.bool (decide (la = lb))) ∧ Below w.heap.size w w' := by
  obtain ⟨aa, ca, rfl, ha0⟩ := ha
  obtain ⟨ab, cb, rfl, hb0⟩ := hb
  by_cases hl : la.length = lb.length
  · by_cases hne : la = []
    · have hne' : lb = [] := by apply List.eq_nil_of_length_eq_zero; rw [← hl, hne]; rfl
      subst hne hne'
      clear ha0 hb0 hl
      go_enter Try.func28, Try.ntmps28
      go_wp2
      go_loopw [13] (fun i wr => i = .int .i64 0 ∧ wr = w) (fun i _ => 0)
      case atStart => exact ⟨rfl, rfl⟩
      case round =>
        obtain ⟨rfl, rfl⟩ := hrel
        go_wp2
        go_ret
        exact ⟨rfl, Below.refl _ _⟩
    obtain ⟨ba, oa, rfl, ha⟩ := ha0 hne
    obtain ⟨bb, ob, rfl, hb⟩ := hb0 (by rintro rfl; apply hne; apply List.eq_nil_of_length_eq_zero; rw [hl]; rfl)
    have hq : ((la.length : Int) != (lb.length : Int)) = false := by simp; omega
    have HL := Lib.hid hl
    have HA := Lib.hid ha
    have HB := Lib.hid hb
    obtain ⟨ti3, hti3, hz03, hts3, hz23⟩ := info_parts (show (Try.prog.info? 9).map (fun i => (i.zero, i.size, i.bytes)) = some (some (.string ByteArray.empty), 1, 16) from by kernel_rfl)
    clear ha0 hb0 ha hb hl hz03 hz23
    go_enter Try.func28, Try.ntmps28
    go_wp2
    go_loopw [13] (fun i wr => EqualSt w la lb i wr) (fun i _ => la.length - (intOf i).toNat)
    case atStart => exact ⟨⟨0, Nat.zero_le _, rfl, rfl, Below.refl _ _⟩⟩
    case round =>
      obtain ⟨k, hk, rfl, htk, hbw⟩ := hrel.st
      clear hrel
      have HT := Lib.hid htk
      have HBW := Lib.hid hbw
      by_cases hlt : k < la.length
      · have hltd : decide ((k : Int) < (la.length : Int)) = true := decide_eq_true (by omega)
        have hl2 := HL.out
        have hki : (k : Int) ≤ 4611686018427387904 := by omega
        obtain ⟨x, hx⟩ : ∃ x, la[k]? = some x := ⟨_, List.getElem?_eq_getElem hlt⟩
        obtain ⟨y, hy⟩ : ∃ y, lb[k]? = some y := ⟨_, List.getElem?_eq_getElem (by omega)⟩
        have hlt2 : k < lb.length := by omega
        have c1 : wr.cell? ⟨ba, oa + k * 1, none⟩ = some (.string x) := (hbw.cell (World.block_lt_of_cell? _ _ (HA.out k x hx))).trans (HA.out k x hx)
        have c2 : wr.cell? ⟨bb, ob + k * 1, none⟩ = some (.string y) := (hbw.cell (World.block_lt_of_cell? _ _ (HB.out k y hy))).trans (HB.out k y hy)
        have HX := Lib.hid hx
        have HY := Lib.hid hy
        clear hx hy hl2 htk hbw
        by_cases hxy : x = y
        · subst hxy
          go_upto_region 6 with (fail)
          have hS0 : wr.drew.cell? ⟨ba, oa + k * 1, none⟩ = some (.string x) ∧ wr.drew.cell? ⟨bb, ob + k * 1, none⟩ = some (.string x) := ⟨c1, c2⟩
          refine reg_begin (fun w' => w'.cell? ⟨ba, oa + k * 1, none⟩ = some (.string x) ∧ w'.cell? ⟨bb, ob + k * 1, none⟩ = some (.string x)) (by kernel_rfl) ?_
          (apply reg_take 0 rfl rfl (by decide +kernel) rfl); (rintro w' ⟨h1, h2⟩; go_simp; rfl); exact hS0; simp only [List.setIfInBounds_toArray, List.set_cons_succ, List.set_cons_zero]
          (apply reg_take 1 rfl rfl (by decide +kernel) rfl); (rintro w' ⟨h1, h2⟩; go_simp; rfl); exact hS0; simp only [List.setIfInBounds_toArray, List.set_cons_succ, List.set_cons_zero]
          refine reg_take 2 (v := .pointer (some ⟨ba, oa + k * 1, none⟩)) rfl rfl (by decide +kernel) rfl (fun _ _ => exec_index_slice rfl rfl rfl Try.underlying42 hti3 hts3 hlt) hS0 ?_; simp only [List.setIfInBounds_toArray, List.set_cons_succ, List.set_cons_zero]
          refine reg_take 3 (v := .string x) rfl rfl (by decide +kernel) rfl (fun _ h => exec_load_cell rfl rfl Try.underlying9 rfl h.1) hS0 ?_; simp only [List.setIfInBounds_toArray, List.set_cons_succ, List.set_cons_zero]
          (apply reg_take 4 rfl rfl (by decide +kernel) rfl); (rintro w' ⟨h1, h2⟩; go_simp; rfl); exact hS0; simp only [List.setIfInBounds_toArray, List.set_cons_succ, List.set_cons_zero]
          (apply reg_take 5 rfl rfl (by decide +kernel) rfl); (rintro w' ⟨h1, h2⟩; go_simp; rfl); exact hS0; simp only [List.setIfInBounds_toArray, List.set_cons_succ, List.set_cons_zero]
          refine reg_take 6 (v := .pointer (some ⟨bb, ob + k * 1, none⟩)) rfl rfl (by decide +kernel) rfl (fun _ _ => exec_index_slice rfl rfl rfl Try.underlying42 hti3 hts3 hlt2) hS0 ?_; simp only [List.setIfInBounds_toArray, List.set_cons_succ, List.set_cons_zero]
          refine reg_take 7 (v := .string x) rfl rfl (by decide +kernel) rfl (fun _ h => exec_load_cell rfl rfl Try.underlying9 rfl h.2) hS0 ?_; simp only [List.setIfInBounds_toArray, List.set_cons_succ, List.set_cons_zero]
          refine reg_take 8 (v := .bool false) rfl rfl (by decide +kernel) rfl (fun w' _ => exec_binop rfl rfl rfl rfl (run_neq_str w' false (by simp))) hS0 ?_; simp only [List.setIfInBounds_toArray, List.set_cons_succ, List.set_cons_zero]
          refine reg_done (by decide +kernel) ?_
          go_wp2
          go_roundw
          case rel =>
            refine ⟨⟨k + 1, hlt, rfl, ?_, HBW.out.drew⟩⟩
            rw [List.take_add_one, List.take_add_one, HT.out, HX.out, HY.out]
          case measure =>
            simp only [intOf]; omega
        · skip
          go_upto_region 6 with (fail)
          have hS0 : wr.drew.cell? ⟨ba, oa + k * 1, none⟩ = some (.string x) ∧ wr.drew.cell? ⟨bb, ob + k * 1, none⟩ = some (.string y) := ⟨c1, c2⟩
          refine reg_begin (fun w' => w'.cell? ⟨ba, oa + k * 1, none⟩ = some (.string x) ∧ w'.cell? ⟨bb, ob + k * 1, none⟩ = some (.string y)) (by kernel_rfl) ?_
          (apply reg_take 0 rfl rfl (by decide +kernel) rfl); (rintro w' ⟨h1, h2⟩; go_simp; rfl); exact hS0; simp only [List.setIfInBounds_toArray, List.set_cons_succ, List.set_cons_zero]
          (apply reg_take 1 rfl rfl (by decide +kernel) rfl); (rintro w' ⟨h1, h2⟩; go_simp; rfl); exact hS0; simp only [List.setIfInBounds_toArray, List.set_cons_succ, List.set_cons_zero]
          refine reg_take 2 (v := .pointer (some ⟨ba, oa + k * 1, none⟩)) rfl rfl (by decide +kernel) rfl (fun _ _ => exec_index_slice rfl rfl rfl Try.underlying42 hti3 hts3 hlt) hS0 ?_; simp only [List.setIfInBounds_toArray, List.set_cons_succ, List.set_cons_zero]
          refine reg_take 3 (v := .string x) rfl rfl (by decide +kernel) rfl (fun _ h => exec_load_cell rfl rfl Try.underlying9 rfl h.1) hS0 ?_; simp only [List.setIfInBounds_toArray, List.set_cons_succ, List.set_cons_zero]
          (apply reg_take 4 rfl rfl (by decide +kernel) rfl); (rintro w' ⟨h1, h2⟩; go_simp; rfl); exact hS0; simp only [List.setIfInBounds_toArray, List.set_cons_succ, List.set_cons_zero]
          (apply reg_take 5 rfl rfl (by decide +kernel) rfl); (rintro w' ⟨h1, h2⟩; go_simp; rfl); exact hS0; simp only [List.setIfInBounds_toArray, List.set_cons_succ, List.set_cons_zero]
          refine reg_take 6 (v := .pointer (some ⟨bb, ob + k * 1, none⟩)) rfl rfl (by decide +kernel) rfl (fun _ _ => exec_index_slice rfl rfl rfl Try.underlying42 hti3 hts3 hlt2) hS0 ?_; simp only [List.setIfInBounds_toArray, List.set_cons_succ, List.set_cons_zero]
          refine reg_take 7 (v := .string y) rfl rfl (by decide +kernel) rfl (fun _ h => exec_load_cell rfl rfl Try.underlying9 rfl h.2) hS0 ?_; simp only [List.setIfInBounds_toArray, List.set_cons_succ, List.set_cons_zero]
          refine reg_take 8 (v := .bool true) rfl rfl (by decide +kernel) rfl (fun w' _ => exec_binop rfl rfl rfl rfl (run_neq_str w' true (by simp [hxy]))) hS0 ?_; simp only [List.setIfInBounds_toArray, List.set_cons_succ, List.set_cons_zero]
          refine reg_done (by decide +kernel) ?_
          go_wp2
          go_ret
          have hd : decide (la = lb) = false := decide_eq_false (by rintro rfl; apply hxy; have h1 := HX.out; rw [HY.out] at h1; exact (Option.some.inj h1).symm)
          rw [hd]
          exact ⟨rfl, HBW.out.drew⟩
      · have hke : k = la.length := by omega
        have hltd : decide ((k : Int) < (la.length : Int)) = false := decide_eq_false (by omega)
        clear htk hbw
        go_wp2
        go_ret
        have hd : decide (la = lb) = true := decide_eq_true (by have := HT.out; rwa [hke, List.take_length, HL.out, List.take_length] at this)
        rw [hd]
        exact ⟨rfl, HBW.out⟩
  · have hq : ((la.length : Int) != (lb.length : Int)) = true := by simp; omega
    have hd : decide (la = lb) = false := decide_eq_false (by rintro rfl; exact hl rfl)
    rw [hd]
    clear hl ha0 hb0 hd
    go_enter Try.func28, Try.ntmps28
    go_wp2
    go_ret
    exact ⟨rfl, Below.refl _ _⟩

end Go.Proofs.Ytdeblpnkpefbcaa
